import Derived.Test.YtddbmpbihpkabaaGreatGLGPartsAX
set_option linter.all false
namespace Go.Proofs.YtddbmpbihpkabaaGreat
open Go Go.RowKit Go.Sort Sx
set_option maxRecDepth 2000
theorem cloneAk_own (l:List (List D)) (hl:l.length≤1000000):FnOwn Tryz.prog 21 [.one (.list 7 l)] (ownL 7 l):=by
 cases l with
 | nil =>
  refine own_list ?_ ?_
  ·refine fn_own (by kernel_rfl) (ty_okK [7] [] [] []) Tryz.func21 rfl (fun _ _=>Tryz.call21 _ _) rfl ?_
   intro hw
   repeat' ((conv=>whnf);first|(with_reducible first|refine br_t ?_|refine br_f ?_|refine za ?_|refine zg ?_|refine zo ?_)|refine zp ?_|refine zq ?_|(with_reducible first|refine bc (fun h => ?_) (fun h => ?_)|refine zt ?_|refine zf ?_|refine br_i (fun h => ?_) (fun h => ?_))|refine zg ?_|refine zi ?_|refine zb ?_|refine zl ?_)
   all_goals conv=>whnf
   exact .inr ⟨100,_,_,rfl,rfl,rfl,rfl,rfl⟩
  ·refine fn_own (by kernel_rfl) (ty_okK [7] [] [] []) Tryz.func21 rfl (fun _ _=>Tryz.call21 _ _) rfl ?_
   intro hw
   repeat' ((conv=>whnf);first|(with_reducible first|refine br_t ?_|refine br_f ?_|refine za ?_|refine zg ?_|refine zo ?_)|refine zp ?_|refine zq ?_|(with_reducible first|refine bc (fun h => ?_) (fun h => ?_)|refine zt ?_|refine zf ?_|refine br_i (fun h => ?_) (fun h => ?_))|refine zg ?_|refine zi ?_|refine zb ?_|refine zl ?_)
   all_goals conv=>whnf
   exact .inl ⟨5,1,_,rfl,rfl,rfl⟩
 | cons x xs =>
  refine fn_own (by kernel_rfl) (ty_okK [7] [] [] []) Tryz.func21 rfl (fun _ _=>Tryz.call21 _ _) rfl ?_
  intro hw
  simp only [List.length_cons] at hl
  repeat' ((conv=>whnf);first|(with_reducible first|refine br_t ?_|refine br_f ?_|refine za ?_|refine zg ?_|refine zo ?_)|refine zp ?_|refine zq ?_|(with_reducible first|refine bc (fun h => ?_) (fun h => ?_)|refine zt ?_|refine zf ?_|refine br_i (fun h => ?_) (fun h => ?_))|refine zg ?_|refine zi ?_|refine zb ?_|refine zl ?_)
  all_goals conv=>whnf
  exact .inl ⟨5,1,_,rfl,rfl,rfl⟩
theorem cloneRp_own (l:List (List D)) (hl:l.length≤1000000):FnOwn Tryz.prog 37 [.one (.list 6 l)] (ownL 6 l):=by
 cases l with
 | nil =>
  refine own_list ?_ ?_
  ·refine fn_own (by kernel_rfl) (ty_okK [7] [] [] []) Tryz.func37 rfl (fun _ _=>Tryz.call37 _ _) rfl ?_
   intro hw
   repeat' ((conv=>whnf);first|(with_reducible first|refine br_t ?_|refine br_f ?_|refine za ?_|refine zg ?_|refine zo ?_)|refine zp ?_|refine zq ?_|(with_reducible first|refine bc (fun h => ?_) (fun h => ?_)|refine zt ?_|refine zf ?_|refine br_i (fun h => ?_) (fun h => ?_))|refine zg ?_|refine zi ?_|refine zb ?_|refine zl ?_)
   all_goals conv=>whnf
   exact .inr ⟨100,_,_,rfl,rfl,rfl,rfl,rfl⟩
  ·refine fn_own (by kernel_rfl) (ty_okK [7] [] [] []) Tryz.func37 rfl (fun _ _=>Tryz.call37 _ _) rfl ?_
   intro hw
   repeat' ((conv=>whnf);first|(with_reducible first|refine br_t ?_|refine br_f ?_|refine za ?_|refine zg ?_|refine zo ?_)|refine zp ?_|refine zq ?_|(with_reducible first|refine bc (fun h => ?_) (fun h => ?_)|refine zt ?_|refine zf ?_|refine br_i (fun h => ?_) (fun h => ?_))|refine zg ?_|refine zi ?_|refine zb ?_|refine zl ?_)
   all_goals conv=>whnf
   exact .inl ⟨5,1,_,rfl,rfl,rfl⟩
 | cons x xs =>
  refine fn_own (by kernel_rfl) (ty_okK [7] [] [] []) Tryz.func37 rfl (fun _ _=>Tryz.call37 _ _) rfl ?_
  intro hw
  simp only [List.length_cons] at hl
  repeat' ((conv=>whnf);first|(with_reducible first|refine br_t ?_|refine br_f ?_|refine za ?_|refine zg ?_|refine zo ?_)|refine zp ?_|refine zq ?_|(with_reducible first|refine bc (fun h => ?_) (fun h => ?_)|refine zt ?_|refine zf ?_|refine br_i (fun h => ?_) (fun h => ?_))|refine zg ?_|refine zi ?_|refine zb ?_|refine zl ?_)
  all_goals conv=>whnf
  exact .inl ⟨5,1,_,rfl,rfl,rfl⟩
theorem cloneMt_own (l:List (List D)) (hl:l.length≤1000000):FnOwn Tryz.prog 38 [.one (.list 4 l)] (ownL 4 l):=by
 cases l with
 | nil =>
  refine own_list ?_ ?_
  ·refine fn_own (by kernel_rfl) (ty_okK [7] [] [] []) Tryz.func38 rfl (fun _ _=>Tryz.call38 _ _) rfl ?_
   intro hw
   repeat' ((conv=>whnf);first|(with_reducible first|refine br_t ?_|refine br_f ?_|refine za ?_|refine zg ?_|refine zo ?_)|refine zp ?_|refine zq ?_|(with_reducible first|refine bc (fun h => ?_) (fun h => ?_)|refine zt ?_|refine zf ?_|refine br_i (fun h => ?_) (fun h => ?_))|refine zg ?_|refine zi ?_|refine zb ?_|refine zl ?_)
   all_goals conv=>whnf
   exact .inr ⟨100,_,_,rfl,rfl,rfl,rfl,rfl⟩
  ·refine fn_own (by kernel_rfl) (ty_okK [7] [] [] []) Tryz.func38 rfl (fun _ _=>Tryz.call38 _ _) rfl ?_
   intro hw
   repeat' ((conv=>whnf);first|(with_reducible first|refine br_t ?_|refine br_f ?_|refine za ?_|refine zg ?_|refine zo ?_)|refine zp ?_|refine zq ?_|(with_reducible first|refine bc (fun h => ?_) (fun h => ?_)|refine zt ?_|refine zf ?_|refine br_i (fun h => ?_) (fun h => ?_))|refine zg ?_|refine zi ?_|refine zb ?_|refine zl ?_)
   all_goals conv=>whnf
   exact .inl ⟨5,1,_,rfl,rfl,rfl⟩
 | cons x xs =>
  refine fn_own (by kernel_rfl) (ty_okK [7] [] [] []) Tryz.func38 rfl (fun _ _=>Tryz.call38 _ _) rfl ?_
  intro hw
  simp only [List.length_cons] at hl
  repeat' ((conv=>whnf);first|(with_reducible first|refine br_t ?_|refine br_f ?_|refine za ?_|refine zg ?_|refine zo ?_)|refine zp ?_|refine zq ?_|(with_reducible first|refine bc (fun h => ?_) (fun h => ?_)|refine zt ?_|refine zf ?_|refine br_i (fun h => ?_) (fun h => ?_))|refine zg ?_|refine zi ?_|refine zb ?_|refine zl ?_)
  all_goals conv=>whnf
  exact .inl ⟨5,1,_,rfl,rfl,rfl⟩
theorem gmodeled_fn (m:Md) (hl:m.l.length≤1000000):FnOK Tryz.prog 20 [m.dc] (.c m.dc):=by
 have H:=clonePt_fn (m.l.map Pt.c) (by simpa using hl)
 refine fn_ok (by kernel_rfl) ty_ok Tryz.func20 rfl (fun _ _=>Tryz.call20 _ _) rfl ?_
 intro hw
 clear hw
 exact zw
abbrev retG (x:Lg × Int):DV:=.tup [x.1.dc,.one (i64 x.2)]
theorem ggoes1_mem {m:Md} (hm:mchk m=0) (a:Ak) (r:Rp):FnMem Tryz.prog 69 [a.dc,r.dc] [[i64 m.n,i64 m.d,pts m.l]] (.c (.one (bol (decide ((askV m a).2=r))))) [[i64 (askV m a).1.n,i64 (askV m a).1.d,pts (askV m a).1.l]]:=by
 have H1:=oDo_fn m a
 unfold doV at H1
 rw [if_pos hm] at H1
 generalize askV m a=x at *
 obtain ⟨y,s⟩:=x
 have H2:=oSame_fn s r
 simp only [retD] at H1
 dsimp only
 generalize decide (s=r)=z at *
 refine fn_mem (by kernel_rfl) ty_ok Tryz.func69 rfl (fun _ _=>Tryz.call69 _ _) rfl rfl ?_
 intro hw
 clear hw
 exact zw
theorem ggoes_clo (m:Md):FnClo Tryz.prog 44 [m.dc] 69 [i64 m.n,i64 m.d,pts m.l]:=by
 intro w M vs hM hd
 match vs,hd with
 | [v],hd =>
  obtain ⟨us,rfl,hD⟩:=(show ∃ us:List Value,v=.agg us.toArray∧DsR w M [i64 m.n,i64 m.d,pts m.l] us from hd.1)
  match us,hD with
  | [u1,u2,u3],hD =>
   refine ⟨44,Tryz.call44 _ _,?_⟩
   go_enter Tryz.func44,Tryz.ntmps44
   go_wp2
   go_ret
   refine ⟨w.heap.size,rfl,below_alloc (Below.refl _ _) _,Nat.le_refl _,by simp,[u1,u2,u3],⟨28,heap_alloc_new w _⟩,?_⟩
   exact hD.mono (Holds.of_below (below_alloc (Below.refl _ _) _)) fun b hb h=>h.resolve_right fun e=>by omega
theorem wrg_lt {u:Md} {l:List Ak} {rs:List Rp} {i:Nat} (h1:i<l.length) (h2:i<rs.length):wrg u (l.drop i) (rs.drop i)=if (askV u l[i]).2=rs[i] then (wrg (askV u l[i]).1 (l.drop (i+1)) (rs.drop (i+1))).map (·+1) else some 0:=by
 rw [List.drop_eq_getElem_cons h1,List.drop_eq_getElem_cons h2,wrg]
set_option maxRecDepth 100000 in
set_option maxHeartbeats 4000000 in
theorem gWrong_fn (x:Lg):FnOK Tryz.prog 32 [x.dc] (ret2 (wrongV x)):=by
 have H1:=oCheck_fn x.s
 have hal:(x.al.map Ak.c).length=x.al.length:=List.length_map ..
 have hrl:(x.rs.map Rp.c).length=x.rs.length:=List.length_map ..
 unfold wrongV
 by_cases h1:120<x.al.length
 ·have hf:formL x=4:=by unfold formL;rw [if_pos h1]
  rw [if_neg (by omega),hf]
  refine fn_ok (by kernel_rfl) ty_ok Tryz.func32 rfl (fun _ _=>Tryz.call32 _ _) rfl ?_
  intro hw
  simp only [WDCs,WDC,WDs] at hw
  have w1:x.al.length≤9223372036854775807:=wd_aks hw.1.2.2.2.1
  clear hw H1
  repeat' ((conv=>whnf);first|(with_reducible first|refine br_t ?_|refine br_f ?_|refine za ?_|refine zg ?_)|rw [hal]|refine zp ?_|refine zq ?_|(with_reducible first|refine bc (fun h => ?_) (fun h => ?_)|refine zt ?_|refine zf ?_|refine br_i (fun h => ?_) (fun h => ?_))|refine zg ?_|refine zi ?_|refine zb ?_)
  all_goals conv=>whnf
  all_goals rfl
 ·by_cases h2:mchk x.s=0
  ·rw [h2] at H1
   by_cases h3:x.rs.length=x.al.length
   ·have hf:formL x=0:=by unfold formL;rw [if_neg h1,if_pos ⟨h2,h3⟩]
    rw [if_pos hf]
    clear hf
    have HG:=ggoes_clo x.s
    refine fn_ok (by kernel_rfl) (ty_okK [] [] [] [44,69]) Tryz.func32 rfl (fun _ _=>Tryz.call32 _ _) rfl ?_
    intro hw
    clear hw
    repeat' ((conv=>whnf);first|(with_reducible first|refine br_t ?_|refine br_f ?_|refine za ?_|refine zg ?_|refine ze ?_|refine zk ?_)|rw [hal]|rw [hrl]|refine zp ?_|refine zq ?_|(with_reducible first|refine bc (fun h => ?_) (fun h => ?_)|refine zt ?_|refine zf ?_|refine br_i (fun h => ?_) (fun h => ?_))|refine zg ?_|refine zi ?_|refine zb ?_|refine zl ?_)
    clear H1 HG
    refine loop_J (by kernel_rfl) (ty_okK [] [] [] [44,69]) (σ:=Nat × Md) (fun s=>[(30,sV (.int .i64 s.1))]) (fun s=>[(26,.own [.d (i64 s.2.n),.d (i64 s.2.d),.d (pts s.2.l)])]) (fun s=>s.1≤x.al.length∧mchk s.2=0∧(wrg s.2 (x.al.drop s.1) (x.rs.drop s.1)).map (·+s.1)=wrg x.s x.al x.rs) (fun s=>x.al.length-s.1) (0,x.s) ⟨Nat.zero_le _,h2,by simp⟩ ?_ ?_
    ·(conv=>whnf);exact zent
    rintro ⟨i,u⟩ ⟨hi,hu,hI⟩
    dsimp only at hi hu hI
    rcases Nat.lt_or_ge i x.al.length with hlt|hge
    ·have hlt2:i<x.rs.length:=by omega
     have g1:=aks_get hlt
     have g2:=rps_get hlt2
     have HM:=ggoes1_mem hu x.al[i] x.rs[i]
     have hv:=askV_ok hu x.al[i]
     rw [wrg_lt hlt hlt2] at hI
     by_cases hc:(askV u x.al[i]).2=x.rs[i]
     ·rw [if_pos hc,Option.map_map] at hI
      rw [decide_eq_true hc] at HM
      clear hc
      generalize x.rs[i]=r at *
      generalize x.al[i]=a at *
      generalize (askV u a).1=y at *
      repeat' ((conv=>whnf);first|(with_reducible first|refine br_t ?_|refine br_f ?_|refine za ?_|refine zg ?_|refine ze ?_|refine zk ?_)|rw [hal]|rw [hrl]|refine zp ?_|refine zq ?_|(with_reducible first|refine bc (fun h => ?_) (fun h => ?_)|refine zt ?_|refine zf ?_|refine br_i (fun h => ?_) (fun h => ?_))|refine zg ?_|refine zi ?_|refine zb ?_|refine zl ?_)
      all_goals conv=>whnf
      refine ⟨(i+1,y),⟨by omega,hv,?_⟩,?_,by simp only;omega⟩
      ·rw [← hI]
       congr 1
       funext n
       simp only [Function.comp]
       omega
      ·(conv=>whnf);exact zent
     ·rw [if_neg hc] at hI
      rw [decide_eq_false hc] at HM
      have e:wrgI x.s x.al x.rs=((i:Int),0):=by unfold wrgI;rw [← hI];simp
      rw [e]
      clear hc hI
      generalize x.rs[i]=r at *
      generalize x.al[i]=a at *
      generalize (askV u a).1=y at *
      repeat' ((conv=>whnf);first|(with_reducible first|refine br_t ?_|refine br_f ?_|refine za ?_|refine zg ?_|refine ze ?_|refine zk ?_)|rw [hal]|rw [hrl]|refine zp ?_|refine zq ?_|(with_reducible first|refine bc (fun h => ?_) (fun h => ?_)|refine zt ?_|refine zf ?_|refine br_i (fun h => ?_) (fun h => ?_))|refine zg ?_|refine zi ?_|refine zb ?_|refine zl ?_)
      all_goals conv=>whnf
      all_goals rfl
    ·have e:wrgI x.s x.al x.rs=(0,6):=by
      unfold wrgI
      rw [← hI,List.drop_of_length_le hge]
      rfl
     rw [e]
     repeat' ((conv=>whnf);first|(with_reducible first|refine br_t ?_|refine br_f ?_|refine za ?_|refine zg ?_|refine ze ?_|refine zk ?_)|rw [hal]|rw [hrl]|refine zp ?_|refine zq ?_|(with_reducible first|refine bc (fun h => ?_) (fun h => ?_)|refine zt ?_|refine zf ?_|refine br_i (fun h => ?_) (fun h => ?_))|refine zg ?_|refine zi ?_|refine zb ?_|refine zl ?_)
     all_goals conv=>whnf
     all_goals rfl
   ·have hf:formL x=8:=by unfold formL;rw [if_neg h1,if_neg (fun h=>h3 h.2)]
    rw [if_neg (by omega),hf]
    refine fn_ok (by kernel_rfl) ty_ok Tryz.func32 rfl (fun _ _=>Tryz.call32 _ _) rfl ?_
    intro hw
    simp only [WDCs,WDC,WDs] at hw
    have w2:x.rs.length≤9223372036854775807:=wd_rps hw.1.2.2.2.2.1
    clear hw
    repeat' ((conv=>whnf);first|(with_reducible first|refine br_t ?_|refine br_f ?_|refine za ?_|refine zg ?_)|rw [hal]|rw [hrl]|refine zp ?_|refine zq ?_|(with_reducible first|refine bc (fun h => ?_) (fun h => ?_)|refine zt ?_|refine zf ?_|refine br_i (fun h => ?_) (fun h => ?_))|refine zg ?_|refine zi ?_|refine zb ?_)
    all_goals conv=>whnf
    all_goals rfl
  ·have hf:formL x=8:=by unfold formL;rw [if_neg h1,if_neg (fun h=>h2 h.1)]
   rw [if_neg (by omega),hf]
   rw [(mchk_08 _).resolve_left h2] at H1
   refine fn_ok (by kernel_rfl) ty_ok Tryz.func32 rfl (fun _ _=>Tryz.call32 _ _) rfl ?_
   intro hw
   clear hw
   repeat' ((conv=>whnf);first|(with_reducible first|refine br_t ?_|refine br_f ?_|refine za ?_|refine zg ?_)|rw [hal]|rw [hrl]|refine zp ?_|refine zq ?_|(with_reducible first|refine bc (fun h => ?_) (fun h => ?_)|refine zt ?_|refine zf ?_|refine br_i (fun h => ?_) (fun h => ?_))|refine zg ?_|refine zi ?_|refine zb ?_)
   all_goals conv=>whnf
   all_goals rfl
theorem formL_c (x:Lg):formL x=0∨formL x=4∨formL x=8:=by unfold formL;(repeat' split)<;>simp
theorem gCheck_fn (x:Lg):FnOK Tryz.prog 16 [x.dc] (ret1 (lchk x)):=by
 have H:=gWrong_fn x
 unfold wrongV at H
 unfold lchk
 by_cases h:formL x=0
 ·rw [if_pos h] at H ⊢
  unfold wrgI at H
  cases hw:wrg x.s x.al x.rs with
  | none =>
   rw [hw] at H
   simp only at H
   rw [if_pos rfl]
   refine fn_ok (by kernel_rfl) ty_ok Tryz.func16 rfl (fun _ _=>Tryz.call16 _ _) rfl ?_
   intro hw
   clear hw
   exact zw
  | some i =>
   rw [hw] at H
   simp only at H
   rw [if_neg (by simp)]
   refine fn_ok (by kernel_rfl) ty_ok Tryz.func16 rfl (fun _ _=>Tryz.call16 _ _) rfl ?_
   intro hw
   clear hw
   exact zw
 ·rw [if_neg h] at H ⊢
  rcases (formL_c x).resolve_left h with e|e
  all_goals
   rw [e] at H ⊢
   refine fn_ok (by kernel_rfl) ty_ok Tryz.func16 rfl (fun _ _=>Tryz.call16 _ _) rfl ?_
   intro hw
   clear hw
   exact zw
theorem gAt_fn (x:Lg) (n:Int):FnOK Tryz.prog 6 [x.dc,.one (i64 n)] (.tup [(latV x n).1.dc,.one (i64 (latV x n).2)]):=by
 have H:=gCheck_fn x
 have hal:(x.al.map Ak.c).length=x.al.length:=List.length_map ..
 unfold latV
 by_cases h:lchk x=0
 ·rw [if_pos h]
  rw [h] at H
  obtain ⟨k1,k2,k3⟩:=lchk_ok h
  by_cases h1:n<0∨(x.al.length:Int)<n
  ·rw [if_pos h1]
   refine fn_ok (by kernel_rfl) ty_ok Tryz.func6 rfl (fun _ _=>Tryz.call6 _ _) rfl ?_
   intro hw
   clear hw
   repeat' ((conv=>whnf);first|(with_reducible first|refine br_t ?_|refine br_f ?_|refine za ?_|refine zg ?_)|rw [hal]|refine zp ?_|refine zq ?_|(with_reducible first|refine bc (fun h => ?_) (fun h => ?_)|refine zt ?_|refine zf ?_|refine br_i (fun h => ?_) (fun h => ?_))|refine zg ?_|refine zi ?_|refine zb ?_)
   all_goals conv=>whnf
   all_goals rfl
  ·rw [if_neg h1]
   have HR:=oRun_fn x.s (x.al.take n.toNat)
   unfold runV at HR
   rw [if_pos k2,if_neg (by rw [List.length_take];omega),aks,List.map_take] at HR
   simp only [retR] at HR
   have HR':FnOK Tryz.prog 17 [x.s.dc,.one (.list 7 (((x.al.map Ak.c).take n.toNat).drop (0:Int).toNat))] _:=HR
   generalize (runs x.s (x.al.take n.toNat)).1=y at *
   generalize (runs x.s (x.al.take n.toNat)).2=z at *
   refine fn_ok (by kernel_rfl) ty_ok Tryz.func6 rfl (fun _ _=>Tryz.call6 _ _) rfl ?_
   intro hw
   clear hw
   repeat' ((conv=>whnf);first|(with_reducible first|refine br_t ?_|refine br_f ?_|refine za ?_|refine zg ?_)|rw [hal]|refine zp ?_|refine zq ?_|(with_reducible first|refine bc (fun h => ?_) (fun h => ?_)|refine zt ?_|refine zf ?_|refine br_i (fun h => ?_) (fun h => ?_))|refine zg ?_|refine zi ?_|refine zb ?_)
   all_goals conv=>whnf
   all_goals rfl
 ·rw [if_neg h]
  generalize lchk x=z at *
  refine fn_ok (by kernel_rfl) ty_ok Tryz.func6 rfl (fun _ _=>Tryz.call6 _ _) rfl ?_
  intro hw
  clear hw
  exact zw
end Go.Proofs.YtddbmpbihpkabaaGreat

namespace Go.Proofs.YtddbmpbihpkabaaGreat
open Go Go.RowKit Go.Sort Sx
end Go.Proofs.YtddbmpbihpkabaaGreat

namespace Go.Proofs.YtddbmpbihpkabaaGreat
open Go Go.RowKit Go.Sort Sx
end Go.Proofs.YtddbmpbihpkabaaGreat

namespace Go.Proofs.YtddbmpbihpkabaaGreat
open Go Go.RowKit Go.Sort Sx
set_option maxRecDepth 2000
theorem rqGreat_fn (m:Md) (l:List Ak):FnOK Tryz.prog 14 [m.dc,.one (aks l)] (.c (.one (bol (great m.l || decide (20<l.length∧l.length≤120∨130<l.length))))):=by
 have H:=rfGreat_fn m.l
 have hal:(l.map Ak.c).length=l.length:=List.length_map ..
 cases hg:great m.l
 ·rw [hg] at H
  refine fn_ok (by kernel_rfl) ty_ok Tryz.func14 rfl (fun _ _=>Tryz.call14 _ _) rfl ?_
  intro hw
  simp only [WDCs,WDC,WDs] at hw
  have w1:=wd_aks hw.2.1
  clear hw
  repeat' ((conv=>whnf);first|(with_reducible first|refine br_t ?_|refine br_f ?_|refine za ?_|refine zg ?_)|rw [hal]|refine zp ?_|refine zq ?_|(with_reducible first|refine bc (fun h => ?_) (fun h => ?_)|refine zt ?_|refine zf ?_|refine br_i (fun h => ?_) (fun h => ?_))|refine zg ?_|refine zi ?_|refine zb ?_)
  all_goals conv=>whnf
  all_goals
   refine r_bool ?_
   rw [Bool.eq_iff_iff]
   simp only [Bool.false_or,decide_eq_true_eq,Bool.false_eq_true,false_iff,iff_false,true_iff,iff_true]
   first|omega|(rw [iff_comm];omega)|trivial
 ·rw [hg] at H
  refine fn_ok (by kernel_rfl) ty_ok Tryz.func14 rfl (fun _ _=>Tryz.call14 _ _) rfl ?_
  intro hw
  clear hw
  exact zw
theorem Ak.eq_iff {a b:Ak}:a=b↔a.k=b.k∧(a.p.id=b.p.id∧a.p.a=b.p.a∧a.p.b=b.p.b)∧a.id=b.id∧a.n=b.n∧a.d=b.d:=by
 obtain ⟨k,⟨i,x,y⟩,j,n,d⟩:=a
 obtain ⟨k',⟨i',x',y'⟩,j',n',d'⟩:=b
 simp [and_assoc]
theorem r36SameAsks_fn (a b:List Ak):FnOK Tryz.prog 28 [.one (aks a),.one (aks b)] (.c (.one (bol (decide (a=b))))):=by
 have hla:(a.map Ak.c).length=a.length:=List.length_map ..
 have hlb:(b.map Ak.c).length=b.length:=List.length_map ..
 refine fn_ok (by kernel_rfl) ty_ok Tryz.func28 rfl (fun _ _=>Tryz.call28 _ _) rfl ?_
 intro hw
 simp only [WDCs,WDC,WDs] at hw
 have w1:=wd_aks hw.1
 have w2:=wd_aks hw.2.1
 clear hw
 by_cases h0:a.length=b.length
 ·repeat' ((conv=>whnf);first|(with_reducible first|refine br_t ?_|refine br_f ?_|refine za ?_|refine zg ?_)|rw [hla]|rw [hlb]|refine zp ?_|refine zq ?_|(with_reducible first|refine bc (fun h => ?_) (fun h => ?_)|refine zt ?_|refine zf ?_|refine br_i (fun h => ?_) (fun h => ?_)|refine xi (pv_bool fun _=>nev51 _ _ _ _ _ _ _ _ _ _ _ _ _ _ _ _ _) ?_)|refine zg ?_|refine zi ?_|refine zb ?_)
  refine loop_J (by kernel_rfl) ty_ok (σ:=Nat) (fun i=>[(5,sV (.int .i64 i))]) (fun _=>[]) (fun i=>i≤a.length∧a.take i=b.take i) (fun i=>a.length-i) 0 ⟨by omega,rfl⟩ ?_ ?_
  ·(conv=>whnf);exact zent
  rintro i ⟨hi,hI⟩
  rcases Nat.lt_or_ge i a.length with hlt|hge
  ·have hb:i<b.length:=by omega
   have he1:=aks_get hlt
   have he2:=aks_get hb
   have hq:=Ak.eq_iff (a:=a[i]) (b:=b[i])
   by_cases hc:a[i]=b[i]
   ·have hn:=take_succ_eq hI hlt hb hc
    have hq:=hq.1 hc
    clear hc
    repeat' ((conv=>whnf);first|(with_reducible first|refine br_t ?_|refine br_f ?_|refine za ?_|refine zg ?_)|rw [hla]|rw [hlb]|refine zp ?_|refine zq ?_|(with_reducible first|refine bc (fun h => ?_) (fun h => ?_)|refine zt ?_|refine zf ?_|refine br_i (fun h => ?_) (fun h => ?_)|refine xi (pv_bool fun _=>nev51 _ _ _ _ _ _ _ _ _ _ _ _ _ _ _ _ _) ?_)|refine zg ?_|refine zi ?_|refine zb ?_)
    all_goals conv=>whnf
    refine ⟨i+1,⟨by omega,hn⟩,?_,by omega⟩
    (conv=>whnf);exact zent
   ·rw [decide_eq_false (ne_of_get hlt hb hc)]
    have hq:¬ _:=fun h=>hc (hq.2 h)
    clear hc
    repeat' ((conv=>whnf);first|(with_reducible first|refine br_t ?_|refine br_f ?_|refine za ?_|refine zg ?_)|rw [hla]|rw [hlb]|refine zp ?_|refine zq ?_|(with_reducible first|refine bc (fun h => ?_) (fun h => ?_)|refine zt ?_|refine zf ?_|refine br_i (fun h => ?_) (fun h => ?_)|refine xi (pv_bool fun _=>nev51 _ _ _ _ _ _ _ _ _ _ _ _ _ _ _ _ _) ?_)|refine zg ?_|refine zi ?_|refine zb ?_)
    all_goals conv=>whnf
    all_goals rfl
  ·rw [decide_eq_true (take_all_eq hI h0 hge)]
   repeat' ((conv=>whnf);first|(with_reducible first|refine br_t ?_|refine br_f ?_|refine za ?_|refine zg ?_)|rw [hla]|rw [hlb]|refine zp ?_|refine zq ?_|(with_reducible first|refine bc (fun h => ?_) (fun h => ?_)|refine zt ?_|refine zf ?_|refine br_i (fun h => ?_) (fun h => ?_)|refine xi (pv_bool fun _=>nev51 _ _ _ _ _ _ _ _ _ _ _ _ _ _ _ _ _) ?_)|refine zg ?_|refine zi ?_|refine zb ?_)
   all_goals conv=>whnf
   all_goals rfl
 ·rw [decide_eq_false (fun h=>h0 (congrArg List.length h))]
  repeat' ((conv=>whnf);first|(with_reducible first|refine br_t ?_|refine br_f ?_|refine za ?_|refine zg ?_)|rw [hla]|rw [hlb]|refine zp ?_|refine zq ?_|(with_reducible first|refine bc (fun h => ?_) (fun h => ?_)|refine zt ?_|refine zf ?_|refine br_i (fun h => ?_) (fun h => ?_)|refine xi (pv_bool fun _=>nev51 _ _ _ _ _ _ _ _ _ _ _ _ _ _ _ _ _) ?_)|refine zg ?_|refine zi ?_|refine zb ?_)
  all_goals conv=>whnf
  all_goals rfl
end Go.Proofs.YtddbmpbihpkabaaGreat

namespace Go.Proofs.YtddbmpbihpkabaaGreat
open Go Go.RowKit Go.Sort Sx
set_option maxRecDepth 2000
theorem rgrun_fn {m:Md} (h:mchk m=0) (l:List Ak) (h1:l.length≤1000):FnOK Tryz.prog 19 [m.dc,.one (aks l)] (.tup [(runs m l).1.dc,.one (rps (runs m l).2)]):=by
 obtain ⟨g1,g2⟩:=mchk_ok h
 obtain ⟨k1,k2,k3⟩:=fchk_ok g2
 have HT:=roTwin_fn m (by omega)
 have hal:(l.map Ak.c).length=l.length:=List.length_map ..
 refine fn_ok (by kernel_rfl) (ty_okK [7,32] [] [] []) Tryz.func19 rfl (fun _ _=>Tryz.call19 _ _) rfl ?_
 intro hw
 clear hw
 repeat' ((conv=>whnf);first|(with_reducible first|refine br_t ?_|refine br_f ?_|refine za ?_|refine zg ?_|refine zo ?_)|rw [hal]|refine zp ?_|refine zq ?_|(with_reducible first|refine bc (fun h => ?_) (fun h => ?_)|refine zt ?_|refine zf ?_|refine br_i (fun h => ?_) (fun h => ?_))|refine zg ?_|refine zi ?_|refine zb ?_|refine zl ?_)
 refine loop_J (by kernel_rfl) (ty_okK [7,32] [] [] []) (σ:=Nat × Md × List Rp) (fun s=>[(8,sV (.int .i64 s.1)),(7,.c (.at (.osl 7 0)))]) (fun s=>[(6,.own [.d (i64 s.2.1.n),.d (i64 s.2.1.d),.d (pts s.2.1.l)]),(7,.row 6 (s.2.2.map Rp.c) 0)]) (fun s=>s.1≤l.length∧mchk s.2.1=0∧runs m (l.take s.1)=s.2) (fun s=>l.length-s.1) (0,m,[]) ⟨by omega,h,rfl⟩ ?_ ?_
 ·(conv=>whnf);exact zent
 rintro ⟨i,u,o⟩ ⟨hi,hu,hI⟩
 dsimp only at hi hu hI
 have hol:(o.map Rp.c).length=o.length:=List.length_map ..
 have hoi:o.length=(l.take i).length:=by have:=runs_len m (l.take i);rw [hI] at this;exact this
 rw [List.length_take] at hoi
 rcases Nat.lt_or_ge i l.length with hlt|hge
 ·have hel:=aks_get hlt
  have HA:=roDid_fn hu l[i]
  have hn:=runs_succ (m:=m) hlt
  have hv:=askV_ok hu l[i]
  rw [hI] at hn
  dsimp only at hn
  generalize askV u l[i]=x at *
  obtain ⟨y,r⟩:=x
  dsimp only at hn hv
  simp only [retA] at HA
  have hs:o.map Rp.c++[[i64 r.e,i64 r.i,i64 r.j,i64 r.n,i64 r.d,mts r.ms]]=(o++[r]).map Rp.c:=by rw [List.map_append];rfl
  generalize l[i]=a at *
  repeat' ((conv=>whnf);first|(with_reducible first|refine br_t ?_|refine br_f ?_|refine za ?_|refine zg ?_|refine zo ?_)|rw [hol]|rw [hal]|refine zp ?_|refine zq ?_|(with_reducible first|refine bc (fun h => ?_) (fun h => ?_)|refine zt ?_|refine zf ?_|refine br_i (fun h => ?_) (fun h => ?_))|refine zg ?_|refine zi ?_|refine zb ?_|refine zl ?_)
  all_goals conv=>whnf
  refine ⟨(i+1,y,o++[r]),⟨by omega,hv,hn⟩,?_,by simp only;omega⟩
  (conv=>whnf);refine ⟨by repeat' (first|with_reducible exact zE0|with_reducible refine zE1 ?_ ?_|rfl|assumption|((exact congrArg (fun x=>some (Blk.row 6 x 0)) hs))|exact zi1|exact zb1),by repeat' (first|with_reducible exact zH0|with_reducible refine zH1 ?_ ?_|rfl|assumption|((exact congrArg (fun x=>some (Blk.row 6 x 0)) hs))),rfl⟩
 ·obtain rfl:i=l.length:=by omega
  rw [List.take_of_length_le (Nat.le_refl _)] at hI
  rw [hI]
  repeat' ((conv=>whnf);first|(with_reducible first|refine br_t ?_|refine br_f ?_|refine za ?_|refine zg ?_|refine zo ?_)|rw [hol]|rw [hal]|refine zp ?_|refine zq ?_|(with_reducible first|refine bc (fun h => ?_) (fun h => ?_)|refine zt ?_|refine zf ?_|refine br_i (fun h => ?_) (fun h => ?_))|refine zg ?_|refine zi ?_|refine zb ?_|refine zl ?_)
  all_goals conv=>whnf
  all_goals rfl
theorem rgRecord_fn (m:Md) (l:List Ak):FnOK Tryz.prog 23 [m.dc,.one (aks l)] (retG (recV m l)):=by
 have H1:=roCheck_fn m
 have hal:(l.map Ak.c).length=l.length:=List.length_map ..
 unfold recV
 by_cases h:mchk m=0
 ·rw [if_pos h]
  rw [h] at H1
  obtain ⟨g1,g2⟩:=mchk_ok h
  obtain ⟨k1,k2,k3⟩:=fchk_ok g2
  by_cases h1:120<l.length
  ·rw [if_pos h1]
   refine fn_ok (by kernel_rfl) ty_ok Tryz.func23 rfl (fun _ _=>Tryz.call23 _ _) rfl ?_
   intro hw
   simp only [WDCs,WDC,WDs] at hw
   have w1:=wd_aks hw.2.1
   clear hw
   repeat' ((conv=>whnf);first|(with_reducible first|refine br_t ?_|refine br_f ?_|refine za ?_|refine zg ?_)|rw [hal]|refine zp ?_|refine zq ?_|(with_reducible first|refine bc (fun h => ?_) (fun h => ?_)|refine zt ?_|refine zf ?_|refine br_i (fun h => ?_) (fun h => ?_))|refine zg ?_|refine zi ?_|refine zb ?_)
   all_goals conv=>whnf
   all_goals rfl
  ·rw [if_neg h1]
   have H2:=rgrun_fn h l (by omega)
   have HT:=roTwin_fn m (by omega)
   generalize (runs m l).2=r at *
   generalize (runs m l).1=z at *
   refine fn_ok (by kernel_rfl) ty_ok Tryz.func23 rfl (fun _ _=>Tryz.call23 _ _) rfl ?_
   intro hw
   clear hw
   repeat' ((conv=>whnf);first|(with_reducible first|refine br_t ?_|refine br_f ?_|refine za ?_|refine zg ?_)|rw [hal]|refine zp ?_|refine zq ?_|(with_reducible first|refine bc (fun h => ?_) (fun h => ?_)|refine zt ?_|refine zf ?_|refine br_i (fun h => ?_) (fun h => ?_))|refine zg ?_|refine zi ?_|refine zb ?_)
   all_goals conv=>whnf
   all_goals rfl
 ·rw [if_neg h]
  have h8:=(mchk_08 m).resolve_left h
  rw [h8] at H1
  refine fn_ok (by kernel_rfl) ty_ok Tryz.func23 rfl (fun _ _=>Tryz.call23 _ _) rfl ?_
  intro hw
  clear hw
  exact zw
theorem rgFormed_fn (x:Lg):FnOK Tryz.prog 41 [x.dc] (ret1 (formL x)):=by
 have H1:=roCheck_fn x.s
 have hal:(x.al.map Ak.c).length=x.al.length:=List.length_map ..
 have hrl:(x.rs.map Rp.c).length=x.rs.length:=List.length_map ..
 unfold formL
 by_cases h1:120<x.al.length
 ·rw [if_pos h1]
  clear H1
  refine fn_ok (by kernel_rfl) ty_ok Tryz.func41 rfl (fun _ _=>Tryz.call41 _ _) rfl ?_
  intro hw
  simp only [WDCs,WDC,WDs] at hw
  have w1:x.al.length≤9223372036854775807:=wd_aks hw.1.2.2.2.1
  clear hw
  repeat' ((conv=>whnf);first|(with_reducible first|refine br_t ?_|refine br_f ?_|refine za ?_|refine zg ?_)|rw [hal]|refine zp ?_|refine zq ?_|(with_reducible first|refine bc (fun h => ?_) (fun h => ?_)|refine zt ?_|refine zf ?_|refine br_i (fun h => ?_) (fun h => ?_))|refine zg ?_|refine zi ?_|refine zb ?_)
  all_goals conv=>whnf
  all_goals rfl
 ·rw [if_neg h1]
  by_cases h2:mchk x.s=0
  ·rw [h2] at H1
   by_cases h3:x.rs.length=x.al.length
   ·rw [if_pos ⟨h2,h3⟩]
    refine fn_ok (by kernel_rfl) ty_ok Tryz.func41 rfl (fun _ _=>Tryz.call41 _ _) rfl ?_
    intro hw
    clear hw
    repeat' ((conv=>whnf);first|(with_reducible first|refine br_t ?_|refine br_f ?_|refine za ?_|refine zg ?_)|rw [hal]|rw [hrl]|refine zp ?_|refine zq ?_|(with_reducible first|refine bc (fun h => ?_) (fun h => ?_)|refine zt ?_|refine zf ?_|refine br_i (fun h => ?_) (fun h => ?_))|refine zg ?_|refine zi ?_|refine zb ?_)
    all_goals conv=>whnf
    all_goals rfl
   ·rw [if_neg (fun h=>h3 h.2)]
    refine fn_ok (by kernel_rfl) ty_ok Tryz.func41 rfl (fun _ _=>Tryz.call41 _ _) rfl ?_
    intro hw
    simp only [WDCs,WDC,WDs] at hw
    have w2:x.rs.length≤9223372036854775807:=wd_rps hw.1.2.2.2.2.1
    clear hw
    repeat' ((conv=>whnf);first|(with_reducible first|refine br_t ?_|refine br_f ?_|refine za ?_|refine zg ?_)|rw [hal]|rw [hrl]|refine zp ?_|refine zq ?_|(with_reducible first|refine bc (fun h => ?_) (fun h => ?_)|refine zt ?_|refine zf ?_|refine br_i (fun h => ?_) (fun h => ?_))|refine zg ?_|refine zi ?_|refine zb ?_)
    all_goals conv=>whnf
    all_goals rfl
  ·rw [if_neg (fun h=>h2 h.1)]
   rw [(mchk_08 _).resolve_left h2] at H1
   refine fn_ok (by kernel_rfl) ty_ok Tryz.func41 rfl (fun _ _=>Tryz.call41 _ _) rfl ?_
   intro hw
   clear hw
   repeat' ((conv=>whnf);first|(with_reducible first|refine br_t ?_|refine br_f ?_|refine za ?_|refine zg ?_)|rw [hal]|rw [hrl]|refine zp ?_|refine zq ?_|(with_reducible first|refine bc (fun h => ?_) (fun h => ?_)|refine zt ?_|refine zf ?_|refine br_i (fun h => ?_) (fun h => ?_))|refine zg ?_|refine zi ?_|refine zb ?_)
   all_goals conv=>whnf
   all_goals rfl
def wrgN (x:Lg):Int:=match wrg x.s x.al x.rs with|none => -1|some i=>(i:Int)
theorem rgwrong_fn {x:Lg} (h:formL x=0):FnOK Tryz.prog 42 [x.dc] (ret1 (wrgN x)):=by
 obtain ⟨h1,h2,h3⟩:x.al.length≤120∧mchk x.s=0∧x.rs.length=x.al.length:=by
  unfold formL at h
  split at h
  ·simp at h
  ·split at h
   ·rename_i a b;exact ⟨by omega,b⟩
   ·simp at h
 have H1:=rgrun_fn h2 x.al (by omega)
 have hW:=wrg_some x.s x.al x.rs
 have hN:=wrg_none x.s x.al x.rs h3
 have hlen:=runs_len x.s x.al
 have hrl:(x.rs.map Rp.c).length=x.rs.length:=List.length_map ..
 unfold wrgN
 generalize wrg x.s x.al x.rs=W at *
 generalize (runs x.s x.al).2=o at *
 generalize (runs x.s x.al).1=y at *
 have hol:(o.map Rp.c).length=o.length:=List.length_map ..
 refine fn_ok (by kernel_rfl) ty_ok Tryz.func42 rfl (fun _ _=>Tryz.call42 _ _) rfl ?_
 intro hw
 clear hw
 repeat' ((conv=>whnf);first|(with_reducible first|refine br_t ?_|refine br_f ?_|refine za ?_|refine zg ?_)|refine zp ?_|refine zq ?_|(with_reducible first|refine bc (fun h => ?_) (fun h => ?_)|refine zt ?_|refine zf ?_|refine br_i (fun h => ?_) (fun h => ?_))|refine zg ?_|refine zi ?_|refine zb ?_)
 refine loop_J (by kernel_rfl) ty_ok (σ:=Nat) (fun i=>[(5,sV (.int .i64 i))]) (fun _=>[]) (fun i=>i≤o.length∧∀ j (k1:j<o.length) (k2:j<x.rs.length),j<i→o[j]=x.rs[j]) (fun i=>o.length-i) 0 ⟨Nat.zero_le _,fun j _ _ h=>absurd h (Nat.not_lt_zero _)⟩ ?_ ?_
 ·(conv=>whnf);exact zent
 rintro i ⟨hi,hI⟩
 rcases Nat.lt_or_ge i o.length with hlt|hge
 ·have hlt2:i<x.rs.length:=by omega
  have g1:=rps_get hlt
  have g2:=rps_get hlt2
  have HS:=roSame_fn o[i] x.rs[i]
  by_cases hc:o[i]=x.rs[i]
  ·rw [decide_eq_true hc] at HS
   have hn:∀ j (k1:j<o.length) (k2:j<x.rs.length),j<i+1→o[j]=x.rs[j]:=fun j k1 k2 hj=>by
    rcases Nat.lt_or_ge j i with h|h
    ·exact hI j k1 k2 h
    ·obtain rfl:j=i:=by omega
     exact hc
   clear hc hI hW hN
   generalize o[i]=a at *
   generalize x.rs[i]=b at *
   repeat' ((conv=>whnf);first|(with_reducible first|refine br_t ?_|refine br_f ?_|refine za ?_|refine zg ?_)|rw [hol]|rw [hrl]|refine zp ?_|refine zq ?_|(with_reducible first|refine bc (fun h => ?_) (fun h => ?_)|refine zt ?_|refine zf ?_|refine br_i (fun h => ?_) (fun h => ?_))|refine zg ?_|refine zi ?_|refine zb ?_)
   all_goals conv=>whnf
   refine ⟨i+1,⟨by omega,hn⟩,?_,by omega⟩
   (conv=>whnf);exact zent
  ·rw [decide_eq_false hc] at HS
   rw [(hW i h3).2 ⟨hlt,hlt2,hc,hI⟩]
   clear hc hI hW hN
   generalize o[i]=a at *
   generalize x.rs[i]=b at *
   repeat' ((conv=>whnf);first|(with_reducible first|refine br_t ?_|refine br_f ?_|refine za ?_|refine zg ?_)|rw [hol]|rw [hrl]|refine zp ?_|refine zq ?_|(with_reducible first|refine bc (fun h => ?_) (fun h => ?_)|refine zt ?_|refine zf ?_|refine br_i (fun h => ?_) (fun h => ?_))|refine zg ?_|refine zi ?_|refine zb ?_)
   all_goals conv=>whnf
   all_goals rfl
 ·have e:W=none:=hN.2 (List.ext_getElem (by omega) fun j k1 k2=>hI j k1 k2 (by omega))
  rw [e]
  clear hI hW hN
  repeat' ((conv=>whnf);first|(with_reducible first|refine br_t ?_|refine br_f ?_|refine za ?_|refine zg ?_)|rw [hol]|refine zp ?_|refine zq ?_|(with_reducible first|refine bc (fun h => ?_) (fun h => ?_)|refine zt ?_|refine zf ?_|refine br_i (fun h => ?_) (fun h => ?_))|refine zg ?_|refine zi ?_|refine zb ?_)
  all_goals conv=>whnf
  all_goals rfl
theorem rgCheck_fn (x:Lg):FnOK Tryz.prog 26 [x.dc] (ret1 (lchk x)):=by
 have H:=rgFormed_fn x
 unfold lchk
 by_cases h:formL x=0
 ·rw [if_pos h]
  have H2:=rgwrong_fn h
  rw [h] at H
  unfold wrgN at H2
  cases hw:wrg x.s x.al x.rs with
  | none =>
   rw [hw] at H2
   simp only at H2
   rw [if_pos rfl]
   refine fn_ok (by kernel_rfl) ty_ok Tryz.func26 rfl (fun _ _=>Tryz.call26 _ _) rfl ?_
   intro hw
   clear hw
   exact zw
  | some i =>
   rw [hw] at H2
   simp only at H2
   rw [if_neg (by simp)]
   refine fn_ok (by kernel_rfl) ty_ok Tryz.func26 rfl (fun _ _=>Tryz.call26 _ _) rfl ?_
   intro hw
   clear hw
   exact zw
 ·rw [if_neg h]
  generalize formL x=z at *
  refine fn_ok (by kernel_rfl) ty_ok Tryz.func26 rfl (fun _ _=>Tryz.call26 _ _) rfl ?_
  intro hw
  clear hw
  exact zw
theorem Lg.eq_iff {x y:Lg}:x=y↔x.s=y.s∧x.al=y.al∧x.rs=y.rs:=by
 cases x;cases y;simp
theorem rgSame_fn (x y:Lg):FnOK Tryz.prog 13 [x.dc,y.dc] (.c (.one (bol (decide (x=y))))):=by
 have H1:=roSameModel_fn x.s y.s
 have H2:=r36SameAsks_fn x.al y.al
 have H3:=roSameAll_fn x.rs y.rs
 have e:=Lg.eq_iff (x:=x) (y:=y)
 by_cases c1:x.s=y.s
 ·rw [decide_eq_true c1] at H1
  by_cases c2:x.al=y.al
  ·rw [decide_eq_true c2] at H2
   by_cases c3:x.rs=y.rs
   ·rw [decide_eq_true c3] at H3
    rw [decide_eq_true (e.2 ⟨c1,c2,c3⟩)]
    clear c1 c2 c3 e
    refine fn_ok (by kernel_rfl) ty_ok Tryz.func13 rfl (fun _ _=>Tryz.call13 _ _) rfl ?_
    intro hw
    clear hw
    exact zw
   ·rw [decide_eq_false c3] at H3
    rw [decide_eq_false (fun h=>c3 (e.1 h).2.2)]
    clear c1 c2 c3 e
    refine fn_ok (by kernel_rfl) ty_ok Tryz.func13 rfl (fun _ _=>Tryz.call13 _ _) rfl ?_
    intro hw
    clear hw
    exact zw
  ·rw [decide_eq_false c2] at H2
   rw [decide_eq_false (fun h=>c2 (e.1 h).2.1)]
   clear c1 c2 e H3
   refine fn_ok (by kernel_rfl) ty_ok Tryz.func13 rfl (fun _ _=>Tryz.call13 _ _) rfl ?_
   intro hw
   clear hw
   exact zw
 ·rw [decide_eq_false c1] at H1
  rw [decide_eq_false (fun h=>c1 (e.1 h).1)]
  clear c1 e H2 H3
  refine fn_ok (by kernel_rfl) ty_ok Tryz.func13 rfl (fun _ _=>Tryz.call13 _ _) rfl ?_
  intro hw
  clear hw
  exact zw
end Go.Proofs.YtddbmpbihpkabaaGreat

namespace Go.Proofs.YtddbmpbihpkabaaGreat
open Go Go.RowKit Go.Sort Sx
set_option maxRecDepth 2000
def Pt.ev (n:Nat→Prop) (p:Pt):List D:=[.hue true n (i64 p.id),i64 p.a,i64 p.b]
def Ak.ev (n:Nat→Prop) (a:Ak):List D:=[.hue true n (u8 a.k),i64 a.p.id,i64 a.p.a,i64 a.p.b,i64 a.id,i64 a.n,i64 a.d]
def Mt.ev (n:Nat→Prop) (m:Mt):List D:=[.hue true n (i64 m.n),i64 m.d,i64 m.i,i64 m.j]
def Rp.ev (n:Nat→Prop) (r:Rp):List D:=[.hue true n (i64 r.e),i64 r.i,i64 r.j,i64 r.n,i64 r.d,.list 4 (r.ms.map (Mt.ev n))]
def Rp.hu (u:Bool) (n:Nat→Prop) (r:Rp):List D:=[.hue true n (i64 r.e),i64 r.i,i64 r.j,i64 r.n,i64 r.d,.hue u n (mts r.ms)]
abbrev Md.ev (n:Nat→Prop) (m:Md):DC:=.agg [i64 m.n,i64 m.d,.list 3 (m.l.map (Pt.ev n))]
abbrev Md.hu (u:Bool) (n:Nat→Prop) (m:Md):DC:=.agg [i64 m.n,i64 m.d,.hue u n (pts m.l)]
abbrev Lg.ev (n:Nat→Prop) (x:Lg):DC:=.agg [i64 x.s.n,i64 x.s.d,.list 3 (x.s.l.map (Pt.ev n)),.list 7 (x.al.map (Ak.ev n)),.list 6 (x.rs.map (Rp.ev n))]
abbrev Lg.hu (u:Bool) (n:Nat→Prop) (x:Lg):DC:=.agg [i64 x.s.n,i64 x.s.d,.hue u n (pts x.s.l),.hue u n (aks x.al),.hue u n (rps x.rs)]
section
variable {C:World→Prop} {n:Nat→Prop}
theorem wk_pts (l:List Pt):Wk C (.list 3 (l.map (Pt.ev n))) (pts l):=wk_map l fun a _=>⟨wk_hue,.refl _,.refl _,trivial⟩
theorem wk_aks (l:List Ak):Wk C (.list 7 (l.map (Ak.ev n))) (aks l):=wk_map l fun a _=>⟨wk_hue,.refl _,.refl _,.refl _,.refl _,.refl _,.refl _,trivial⟩
theorem wk_mts (l:List Mt):Wk C (.list 4 (l.map (Mt.ev n))) (mts l):=wk_map l fun a _=>⟨wk_hue,.refl _,.refl _,.refl _,trivial⟩
theorem wk_rps (l:List Rp):Wk C (.list 6 (l.map (Rp.ev n))) (rps l):=wk_map l fun a _=>⟨wk_hue,.refl _,.refl _,.refl _,.refl _,wk_mts _,trivial⟩
theorem ev_pts (l:List Pt):Wk (Ev n) (pts l) (.list 3 (l.map (Pt.ev n))):=wk_map l fun a _=>⟨wk_ev,.refl _,.refl _,trivial⟩
theorem ev_aks (l:List Ak):Wk (Ev n) (aks l) (.list 7 (l.map (Ak.ev n))):=wk_map l fun a _=>⟨wk_ev,.refl _,.refl _,.refl _,.refl _,.refl _,.refl _,trivial⟩
theorem ev_mts (l:List Mt):Wk (Ev n) (mts l) (.list 4 (l.map (Mt.ev n))):=wk_map l fun a _=>⟨wk_ev,.refl _,.refl _,.refl _,trivial⟩
theorem ev_rps (l:List Rp):Wk (Ev n) (rps l) (.list 6 (l.map (Rp.ev n))):=wk_map l fun a _=>⟨wk_ev,.refl _,.refl _,.refl _,.refl _,ev_mts _,trivial⟩
theorem wk_md (m:Md):WkC C (m.ev n) m.dc:=⟨.refl _,.refl _,wk_pts _,trivial⟩
theorem wk_lg (x:Lg):WkC C (x.ev n) x.dc:=⟨.refl _,.refl _,wk_pts _,wk_aks _,wk_rps _,trivial⟩
theorem ev_lg (x:Lg):WkC (Ev n) x.dc (x.ev n):=⟨.refl _,.refl _,ev_pts _,ev_aks _,ev_rps _,trivial⟩
theorem rep_ev {w:World} {M:Nat→Prop} {x:Value} {v:Value} (h:Rep w M (.hue true n (.v x)) v):Ev n w:=by
 cases h with
 | hue _ _ h=>cases h with|v _ hn _ _=>exact hn
theorem rep_evL {w:World} {M:Nat→Prop} {k:Nat} {α:Type} {f:α→List D} {l:List α} {v:Value} (hf:∀ a,∃ x r,f a=.hue true n (.v x)::r) (h:Rep w M (.list k (l.map f)) v) (hne:l≠[]):Ev n w:=by
 generalize hd:D.list k (l.map f)=d at h
 cases h with
 | nil k' x c hm hx=>injection hd with _ e;exact absurd (List.map_eq_nil_iff.1 e) hne
 | v x h hw=>cases hd
 | nl k=>cases hd
 | em k x c hm=>cases hd
 | ref vs hM hb hv hr=>cases hd
 | clo ps hr=>cases hd
 | hue u n h=>cases hd
 | list vs hc hm hM hb hk hv hr =>
  injection hd with e1 e2
  subst e1 e2
  have hp:0<l.length:=Nat.pos_of_ne_zero fun h=>hne (List.eq_nil_of_length_eq_zero h)
  obtain ⟨x,r,hx⟩:=hf l[0]
  have h0:(l.map f)[0]'(by rw [List.length_map];exact hp)=.hue true n (.v x)::r:=by rw [List.getElem_map,hx]
  have:=hr 0 0 (by rw [List.length_map];exact hp) (by rw [h0];exact Nat.zero_lt_succ _)
  simp only [h0,List.getElem_cons_zero] at this
  exact rep_ev this
theorem ev_arg {k:Nat} {α:Type} {f:α→List D} {l:List α} (hf:∀ a,∃ x r,f a=.hue true n (.v x)::r):∀ (w:World) (M:Nat→Prop) (vs:List Value),DCsR w M [.one (.list k (l.map f))] vs→l≠[]→Ev n w
 | w,M,[v],h,hne=>rep_evL hf h.1 hne
 | w,M,[],h,_=>h.elim
 | w,M,_::_::_,h,_=>h.2.elim
end
theorem clonePt_hue (n:Nat→Prop) (l:List Pt) (hl:l.length≤1000000):FnOK Tryz.prog 34 [.one (.list 3 (l.map (Pt.ev n)))] (.c (.one (.hue true n (pts l)))) :=
 hue_of_own (g:=Pt.c) (clonePt_own _ (by rw [List.length_map];exact hl)) (ev_arg fun a=>⟨_,_,rfl⟩) fun w M hn a _=>⟨hs_ev,hs_v hn,hs_v hn,trivial⟩
theorem cloneAk_hue (n:Nat→Prop) (l:List Ak) (hl:l.length≤1000000):FnOK Tryz.prog 21 [.one (.list 7 (l.map (Ak.ev n)))] (.c (.one (.hue true n (aks l)))) :=
 hue_of_own (g:=Ak.c) (cloneAk_own _ (by rw [List.length_map];exact hl)) (ev_arg fun a=>⟨_,_,rfl⟩) fun w M hn a _=>⟨hs_ev,hs_v hn,hs_v hn,hs_v hn,hs_v hn,hs_v hn,hs_v hn,trivial⟩
theorem cloneMt_hue (n:Nat→Prop) (l:List Mt) (hl:l.length≤1000000):FnOK Tryz.prog 38 [.one (.list 4 (l.map (Mt.ev n)))] (.c (.one (.hue true n (mts l)))) :=
 hue_of_own (g:=Mt.c) (cloneMt_own _ (by rw [List.length_map];exact hl)) (ev_arg fun a=>⟨_,_,rfl⟩) fun w M hn a _=>⟨hs_ev,hs_v hn,hs_v hn,hs_v hn,trivial⟩
theorem gmodeled_hue (n:Nat→Prop) (m:Md) (hl:m.l.length≤1000000):FnOK Tryz.prog 20 [m.ev n] (.c (m.hu true n)):=by
 have H:=clonePt_hue n m.l hl
 refine fn_ok (by kernel_rfl) ty_ok Tryz.func20 rfl (fun _ _=>Tryz.call20 _ _) rfl ?_
 intro hw
 clear hw
 exact zw
end Go.Proofs.YtddbmpbihpkabaaGreat

namespace Go.Proofs.YtddbmpbihpkabaaGreat
open Go Go.RowKit Go.Sort Sx
set_option maxRecDepth 2000
theorem oask_hue (n:Nat→Prop) {u:Md} (hu:mchk u=0) (a:Ak):FnOK Tryz.prog 35 [u.hu false n,.agg (Ak.ev n a)] (.tup [(askV u a).1.hu false n,(askV u a).2.dc]):=by
 intro w M vs hM hvs
 have key:∀ (w':World) (v:Value),Ev n w→w.heap.size≤w'.heap.size→DVR w' (fun b=>M b∨n b) (retA (askV u a)) v→DVR w' M (.tup [(askV u a).1.hu false n,(askV u a).2.dc]) v:=by
  intro w' v hn hs hv
  generalize askV u a=z at *
  obtain ⟨zs,e,h⟩:=hv
  refine ⟨zs,e,?_⟩
  match zs,h with
  | [p,q],⟨⟨ps,e1,h1⟩,⟨qs,e2,h2⟩,h3⟩ =>
   match ps,h1 with
   | [p1,p2,p3],⟨g1,g2,g3,g4⟩ =>
    refine ⟨⟨[p1,p2,p3],e1,g1.mono (.refl _ w') fun b _ h=>.inl h,g2.mono (.refl _ w') fun b _ h=>.inl h,.hue _ _ (far_hue g3 (fun b h=>Nat.lt_of_lt_of_le (hn b h) hs) fun e he => ?_),trivial⟩,⟨qs,e2,h2.mono (.refl _ w') fun b _ h=>.inl h⟩,trivial⟩
    obtain ⟨p,_,rfl⟩:=List.mem_map.1 he
    rfl
 match vs,hvs with
 | [v1,v2],⟨⟨xs,e1,hx⟩,⟨ys,e2,hy⟩,_⟩ =>
  match xs,hx with
  | [x1,x2,x3],⟨a1,a2,a3,_⟩ =>
   match ys,hy with
   | [y1,y2,y3,y4,y5,y6,y7],⟨b1,b2,b3,b4,b5,b6,b7,_⟩ =>
    have hn:=rep_ev b1
    have hM':Lo w (fun b=>M b∨n b):=⟨fun b h=>h.elim (hM.lt b) (hn b),hM.gd,fun b _=>Nat.zero_le b⟩
    have hv:∀ {x:Value} {v:Value},Rep w M (.v x) v→Rep w (fun b=>M b∨n b) (.v x) v:=fun h=>by
     cases h with
     | v _ h1 h2=>exact .v _ h1 h2
    have hx3:Rep w (fun b=>M b∨n b) (pts u.l) x3:=by
     cases a3 with
     | hue _ _ h=>exact hue_far h
    have hy1:Rep w M (u8 a.k) y1:=by
     cases b1 with
     | hue _ _ h=>exact h.rep
    rcases oask_fn hu a w _ [v1,v2] hM' ⟨⟨[x1,x2,x3],e1,hv a1,hv a2,hx3,trivial⟩,⟨[y1,y2,y3,y4,y5,y6,y7],e2,hv hy1,hv b2,hv b3,hv b4,hv b5,hv b6,hv b7,trivial⟩,trivial⟩ with ⟨g,hg,hc⟩|⟨v,hg,hr⟩
    ·refine .inl ⟨g,hg,hc.mono ?_⟩
     rintro e w' ⟨v,rfl,hr,hb⟩
     exact ⟨v,rfl,key w' v hn hb.size hr,hb⟩
    ·exact .inr ⟨v,hg,key w v hn (Nat.le_refl _) hr⟩
theorem aks_evget {n:Nat→Prop} {l:List Ak} {i:Nat} (h:i<l.length):(l.map (Ak.ev n))[((i:Nat):Int).toNat]? = some [.hue true n (u8 l[i].k),i64 l[i].p.id,i64 l[i].p.a,i64 l[i].p.b,i64 l[i].id,i64 l[i].n,i64 l[i].d]:=by
 rw [Int.toNat_natCast,List.getElem?_map,List.getElem?_eq_getElem h];rfl
theorem oRun_hue (n:Nat→Prop) {m:Md} (h:mchk m=0) (l:List Ak) (h1:¬ 120<l.length):FnOK Tryz.prog 17 [m.ev n,.one (.list 7 (l.map (Ak.ev n)))] (.tup [(runs m l).1.hu false n,.one (rps (runs m l).2),.one (i64 0)]):=by
 have H:FnOK Tryz.prog 33 [m.ev n] (ret1 0):=by
  have:=oCheck_fn m
  rw [h] at this
  exact ok_wk this ⟨wk_md m,trivial⟩
 obtain ⟨g1,g2⟩:=mchk_ok h
 obtain ⟨k1,k2,k3⟩:=fchk_ok g2
 have HC:FnOK Tryz.prog 34 [.one (.list 3 (m.l.map (Pt.ev n)))] (.c (.one (.hue false n (pts m.l)))):=ok_wkR (clonePt_hue n m.l (by omega)) wk_false
 have hll:(l.map (Ak.ev n)).length=l.length:=List.length_map ..
 refine fn_ok (by kernel_rfl) (ty_okK [9,48] [] [] []) Tryz.func17 rfl (fun _ _=>Tryz.call17 _ _) rfl ?_
 intro hw
 clear hw
 repeat' ((conv=>whnf);first|(with_reducible first|refine br_t ?_|refine br_f ?_|refine za ?_|refine zg ?_|refine zo ?_)|rw [hll]|refine zp ?_|refine zq ?_|(with_reducible first|refine bc (fun h => ?_) (fun h => ?_)|refine zt ?_|refine zf ?_|refine br_i (fun h => ?_) (fun h => ?_))|refine zg ?_|refine zi ?_|refine zb ?_|refine zl ?_)
 refine loop_J (by kernel_rfl) (ty_okK [9,48] [] [] []) (σ:=Nat × Md × List Rp) (fun s=>[(34,sV (.int .i64 s.1)),(9,.c (.at (.osl 9 0)))]) (fun s=>[(8,.own [.d (i64 s.2.1.n),.d (i64 s.2.1.d),.d (.hue false n (pts s.2.1.l))]),(9,.row 6 (s.2.2.map Rp.c) 0)]) (fun s=>s.1≤l.length∧mchk s.2.1=0∧runs m (l.take s.1)=(s.2.1,s.2.2)) (fun s=>l.length-s.1) (0,m,[]) ⟨Nat.zero_le _,h,rfl⟩ ?_ ?_
 ·(conv=>whnf);exact zent
 rintro ⟨i,u,o⟩ ⟨hi,hu,hI⟩
 dsimp only at hi hu hI
 have hol:(o.map Rp.c).length=o.length:=List.length_map ..
 have hoi:o.length=(l.take i).length:=by have:=runs_len m (l.take i);rw [hI] at this;exact this
 rw [List.length_take] at hoi
 rcases Nat.lt_or_ge i l.length with hlt|hge
 ·have hel:=aks_evget (n:=n) hlt
  have HA:=oask_hue n hu l[i]
  have hn:=runs_succ (m:=m) hlt
  have hv:=askV_ok hu l[i]
  rw [hI] at hn
  dsimp only at hn
  generalize askV u l[i]=x at *
  obtain ⟨y,r⟩:=x
  dsimp only at hn hv
  simp only [Ak.ev,Md.hu,Rp.dc] at HA
  have hs:o.map Rp.c++[[i64 r.e,i64 r.i,i64 r.j,i64 r.n,i64 r.d,mts r.ms]]=(o++[r]).map Rp.c:=by rw [List.map_append];rfl
  generalize l[i]=a at *
  repeat' ((conv=>whnf);first|(with_reducible first|refine br_t ?_|refine br_f ?_|refine za ?_|refine zg ?_|refine zo ?_)|rw [hol]|rw [hll]|refine zp ?_|refine zq ?_|(with_reducible first|refine bc (fun h => ?_) (fun h => ?_)|refine zt ?_|refine zf ?_|refine br_i (fun h => ?_) (fun h => ?_))|refine zg ?_|refine zi ?_|refine zb ?_|refine zl ?_)
  all_goals conv=>whnf
  refine ⟨(i+1,y,o++[r]),⟨by omega,hv,hn⟩,?_,by simp only;omega⟩
  (conv=>whnf);refine ⟨by repeat' (first|with_reducible exact zE0|with_reducible refine zE1 ?_ ?_|rfl|assumption|((exact congrArg (fun x=>some (Blk.row 6 x 0)) hs))|exact zi1|exact zb1),by repeat' (first|with_reducible exact zH0|with_reducible refine zH1 ?_ ?_|rfl|assumption|((exact congrArg (fun x=>some (Blk.row 6 x 0)) hs))),rfl⟩
 ·obtain rfl:i=l.length:=by omega
  rw [List.take_of_length_le (Nat.le_refl _)] at hI
  rw [hI]
  repeat' ((conv=>whnf);first|(with_reducible first|refine br_t ?_|refine br_f ?_|refine za ?_|refine zg ?_|refine zo ?_)|rw [hol]|rw [hll]|refine zp ?_|refine zq ?_|(with_reducible first|refine bc (fun h => ?_) (fun h => ?_)|refine zt ?_|refine zf ?_|refine br_i (fun h => ?_) (fun h => ?_))|refine zg ?_|refine zi ?_|refine zb ?_|refine zl ?_)
  all_goals conv=>whnf
  all_goals rfl
theorem gAt_hue (n:Nat→Prop) {x:Lg} (h:lchk x=0) {k:Int} (h1:¬ (k<0∨(x.al.length:Int)<k)):FnOK Tryz.prog 6 [x.ev n,.one (i64 k)] (.tup [(latV x k).1.hu false n,.one (i64 0)]):=by
 have H:FnOK Tryz.prog 16 [x.ev n] (ret1 0):=by
  have:=gCheck_fn x
  rw [h] at this
  exact ok_wk this ⟨wk_lg x,trivial⟩
 have hal:(x.al.map (Ak.ev n)).length=x.al.length:=List.length_map ..
 obtain ⟨k1,k2,k3⟩:=lchk_ok h
 have HR:=oRun_hue n k2 (x.al.take k.toNat) (by rw [List.length_take];omega)
 rw [List.map_take] at HR
 have HR':FnOK Tryz.prog 17 [x.s.ev n,.one (.list 7 (((x.al.map (Ak.ev n)).take k.toNat).drop (0:Int).toNat))] _:=HR
 unfold latV
 rw [if_pos h,if_neg h1]
 dsimp only
 generalize (runs x.s (x.al.take k.toNat)).1=y at *
 generalize (runs x.s (x.al.take k.toNat)).2=z at *
 refine fn_ok (by kernel_rfl) ty_ok Tryz.func6 rfl (fun _ _=>Tryz.call6 _ _) rfl ?_
 intro hw
 clear hw
 repeat' ((conv=>whnf);first|(with_reducible first|refine br_t ?_|refine br_f ?_|refine za ?_|refine zg ?_)|rw [hal]|refine zp ?_|refine zq ?_|(with_reducible first|refine bc (fun h => ?_) (fun h => ?_)|refine zt ?_|refine zf ?_|refine br_i (fun h => ?_) (fun h => ?_))|refine zg ?_|refine zi ?_|refine zb ?_)
 all_goals conv=>whnf
 all_goals rfl
end Go.Proofs.YtddbmpbihpkabaaGreat

namespace Go.Proofs.YtddbmpbihpkabaaGreat
open Go Go.RowKit Sx
theorem ats_d {ρ:Nat→Nm} {w:World} {M M':Nat→Prop} (hM:∀ b,M b→M' b):∀ {ds:List Sx.D} {vs:List Value},AtsR ρ w M' (ds.map At.d) vs→DsR w M ds vs
 | [],[],_=>trivial
 | d::ds,v::vs,h=>⟨Rep.mono h.1 (.refl _ w) fun b _ hb=>hM b hb,ats_d hM h.2⟩
 | [],_::_,h=>h.elim
 | _::_,[],h=>h.elim
theorem ats_set {ρ:Nat→Nm} {w:World} {M M':Nat→Prop} {x:Sx.D} (key:∀ v,AtR ρ w M' (.osl 0 0) v→Rep w M x v) (hM:∀ b,M b→M' b) :
  ∀ {ds:List Sx.D} {j:Nat} {vs:List Value},AtsR ρ w M' (setAt (ds.map At.d) j (.osl 0 0)) vs→DsR w M (setAt ds j x) vs
 | [],_,[],_=>trivial
 | [],_,_::_,h=>h.elim
 | d::ds,0,[],h=>h.elim
 | d::ds,0,v::vs,h=>⟨key v h.1,ats_d hM h.2⟩
 | d::ds,j+1,[],h=>h.elim
 | d::ds,j+1,v::vs,h=>⟨Rep.mono h.1 (.refl _ w) fun b _ hb=>hM b hb,ats_set key hM h.2⟩
theorem own_key {α:Type} {w w':World} {M:Nat→Prop} {m:Nm} {k:Nat} {n:Nat→Prop} {u:Bool} {f g:α→List Sx.D} {l:List α} (hM:∀ b,M b→b<w.heap.size) (h2:m.ver=0) (h3:0<m.cap→w.heap.size≤m.b∧m.b<w'.heap.size)
  (h5:BlkR (fun _=>m) w' (fun b=>M b∨0<m.cap∧b=m.b) m (.row k (l.map f) 0)) (hev:l≠[]→Ev n w) (hl:Ev n w'→∀ a∈l,HsL w' M u n (f a) (g a)) :
  ∀ v,AtR (fun _=>m) w' (fun b=>M b∨0<m.cap∧b=m.b) (.osl 0 0) v→Rep w' M (.hue u n (.list k (l.map g))) v:=fun v h4=>by
 obtain ⟨_,_,_,k4⟩:=h4
 exact .hue _ _ (row_hue (s:=w.heap.size) (m:=m) (k4 h2.symm) h5 (fun b h=>.inl h) (fun h hm=>by have:=hM _ hm;have:=(h3 h).1;omega) h3 hev hl)
theorem hue_of_ownA {α:Type} {P:Program} {fn k j:Nat} {n:Nat→Prop} {u:Bool} {args:List DC} {ds:List Sx.D} {f g:α→List Sx.D} {l:List α} (h:FnOwn P fn args ⟨.c (.agg ds),0,j,k,l.map f⟩) (hev:∀ w M vs,DCsR w M args vs→l≠[]→Ev n w) (hl:∀ w M,Ev n w→∀ a∈l,HsL w M u n (f a) (g a)) :
  FnOK P fn args (.c (.agg (setAt ds j (.hue u n (.list k (l.map g)))))):=by
 intro w M vs hM hvs
 obtain ⟨q,hg,hc⟩:=h w M vs hM hvs
 refine .inl ⟨q,hg,hc.mono ?_⟩
 rintro e w' ⟨v,m,rfl,hb,h1,h2,h3,h4,h5⟩
 obtain ⟨us,e1,h4⟩:=h4
 exact ⟨v,rfl,⟨us,e1,ats_set (own_key (w:=w) hM.lt h2 h3 h5 (hev w M vs hvs) fun hn=>hl w' M hn) (fun b h=>.inl h) h4⟩,hb⟩
theorem hue_of_ownT {α:Type} {P:Program} {fn k j:Nat} {n:Nat→Prop} {u:Bool} {args:List DC} {ds:List Sx.D} {y:Value} {f g:α→List Sx.D} {l:List α} (h:FnOwn P fn args ⟨.tup [.agg ds,.one (.v y)],0,j,k,l.map f⟩) (hev:∀ w M vs,DCsR w M args vs→l≠[]→Ev n w) (hl:∀ w M,Ev n w→∀ a∈l,HsL w M u n (f a) (g a)) :
  FnOK P fn args (.tup [.agg (setAt ds j (.hue u n (.list k (l.map g)))),.one (.v y)]):=by
 intro w M vs hM hvs
 obtain ⟨q,hg,hc⟩:=h w M vs hM hvs
 refine .inl ⟨q,hg,hc.mono ?_⟩
 rintro e w' ⟨v,m,rfl,hb,h1,h2,h3,h4,h5⟩
 obtain ⟨us,e1,h4⟩:=h4
 match us,h4 with
 | [p,q'],⟨⟨ps,e2,h6⟩,h7,_⟩ =>
  refine ⟨v,rfl,⟨[p,q'],e1,⟨ps,e2,ats_set (own_key (w:=w) hM.lt h2 h3 h5 (hev w M vs hvs) fun hn=>hl w' M hn) (fun b h=>.inl h) h6⟩,?_,trivial⟩,hb⟩
  exact Rep.mono (M:=fun b=>M b∨0<m.cap∧b=m.b) h7 (.refl _ w') fun b _ hb=>.inl hb
end Go.Proofs.YtddbmpbihpkabaaGreat

namespace Go.Proofs.YtddbmpbihpkabaaGreat
open Go Go.RowKit Go.Sort Sx
set_option maxRecDepth 2000
def mixR (n:Nat→Prop) (l:List Rp) (i:Nat):List (List D):=(l.take i).map (Rp.hu true n)++(l.drop i).map (Rp.ev n)
theorem mixR_len (n:Nat→Prop) (l:List Rp) (i:Nat):(mixR n l i).length=l.length:=by unfold mixR;simp;omega
theorem mixR_get {n:Nat→Prop} {l:List Rp} {i:Nat} (h:i<l.length):(mixR n l i)[((i:Nat):Int).toNat]? = some [.hue true n (i64 l[i].e),i64 l[i].i,i64 l[i].j,i64 l[i].n,i64 l[i].d,.list 4 (l[i].ms.map (Mt.ev n))]:=by
 unfold mixR
 have h1:((l.take i).map (Rp.hu true n)).length=i:=by simp;omega
 rw [Int.toNat_natCast,List.getElem?_append_right (by omega),h1,Nat.sub_self,List.drop_eq_getElem_cons h]
 rfl
theorem mixR_set {n:Nat→Prop} {l:List Rp} {i:Nat} (h:i<l.length):(mixR n l i).set ((i:Nat):Int).toNat [.hue true n (i64 l[i].e),i64 l[i].i,i64 l[i].j,i64 l[i].n,i64 l[i].d,.hue true n (mts l[i].ms)]=mixR n l (i+1):=by
 unfold mixR
 have h1:((l.take i).map (Rp.hu true n)).length=i:=by simp;omega
 rw [Int.toNat_natCast,List.set_append_right _ _ (by omega),h1,Nat.sub_self,List.drop_eq_getElem_cons h,List.map_cons,List.set_cons_zero,List.take_succ_eq_append_getElem h,List.map_append,List.append_assoc]
 rfl
theorem mixR_all (n:Nat→Prop) (l:List Rp):mixR n l l.length=l.map (Rp.hu true n):=by unfold mixR;simp
theorem gcopied_ownE (n:Nat→Prop) (l:List Rp) (hl:l.length≤1000000) (hm:∀ r∈l,r.ms.length≤1000000):FnOwn Tryz.prog 22 [.one (.list 6 (l.map (Rp.ev n)))] (ownL 6 (l.map (Rp.hu true n))):=by
 have H:=cloneRp_own (l.map (Rp.ev n)) (by simpa using hl)
 have h0:l.map (Rp.ev n)=mixR n l 0:=by unfold mixR;simp
 rw [← mixR_all]
 have hol:∀ i,(mixR n l i).length=l.length:=mixR_len n l
 rw [h0] at H ⊢
 refine fn_own (by kernel_rfl) (ty_okK [6] [] [] []) Tryz.func22 rfl (fun _ _=>Tryz.call22 _ _) rfl ?_
 intro hw
 clear hw
 repeat' ((conv=>whnf);first|(with_reducible first|refine br_t ?_|refine br_f ?_|refine za ?_|refine zg ?_|refine zo ?_)|rw [hol]|refine zp ?_|refine zq ?_|(with_reducible first|refine bc (fun h => ?_) (fun h => ?_)|refine zt ?_|refine zf ?_|refine br_i (fun h => ?_) (fun h => ?_))|refine zg ?_|refine zi ?_|refine zb ?_|refine zl ?_)
 refine loop_keep [2,3,5,7,8,9] ?_
 conv=>whnf
 refine loop_J (by kernel_rfl) (ty_okK [6] [] [] []) (σ:=Nat) (fun i=>[(9,sV (.int .i64 i)),(3,.c (.at (.osl 6 0)))]) (fun i=>[(6,.row 6 (mixR n l i) 0)]) (fun i=>i≤l.length) (fun i=>l.length-i) 0 (Nat.zero_le _) ?_ ?_
 ·(conv=>whnf);exact zent
 intro i hi
 rcases Nat.lt_or_ge i l.length with hlt|hge
 ·have hel:=mixR_get (n:=n) hlt
  have HC:=cloneMt_hue n l[i].ms (hm _ (List.getElem_mem hlt))
  have hs:=mixR_set (n:=n) hlt
  generalize l[i]=r at *
  repeat' ((conv=>whnf);first|(with_reducible first|refine br_t ?_|refine br_f ?_|refine za ?_|refine zg ?_|refine zo ?_)|rw [hol]|refine zp ?_|refine zq ?_|(with_reducible first|refine bc (fun h => ?_) (fun h => ?_)|refine zt ?_|refine zf ?_|refine br_i (fun h => ?_) (fun h => ?_))|refine zg ?_|refine zi ?_|refine zb ?_|refine zl ?_)
  all_goals conv=>whnf
  refine ⟨i+1,by omega,?_,by omega⟩
  (conv=>whnf);refine ⟨by repeat' (first|with_reducible exact zE0|with_reducible refine zE1 ?_ ?_|rfl|assumption|((exact congrArg (fun x=>some (Blk.row 6 x 0)) hs))|exact zi1|exact zb1),by repeat' (first|with_reducible exact zH0|with_reducible refine zH1 ?_ ?_|rfl|assumption|((exact congrArg (fun x=>some (Blk.row 6 x 0)) hs))),rfl⟩
 ·obtain rfl:i=l.length:=by omega
  repeat' ((conv=>whnf);first|(with_reducible first|refine br_t ?_|refine br_f ?_|refine za ?_|refine zg ?_|refine zo ?_)|rw [hol]|refine zp ?_|refine zq ?_|(with_reducible first|refine bc (fun h => ?_) (fun h => ?_)|refine zt ?_|refine zf ?_|refine br_i (fun h => ?_) (fun h => ?_))|refine zg ?_|refine zi ?_|refine zb ?_|refine zl ?_)
  all_goals conv=>whnf
  exact .inl ⟨6,0,_,rfl,rfl,rfl⟩
theorem gcopied_hue (n:Nat→Prop) (l:List Rp) (hl:l.length≤1000000) (hm:∀ r∈l,r.ms.length≤1000000):FnOK Tryz.prog 22 [.one (.list 6 (l.map (Rp.ev n)))] (.c (.one (.hue true n (rps l)))) :=
 hue_of_own (g:=Rp.c) (gcopied_ownE n l hl hm) (ev_arg fun a=>⟨_,_,rfl⟩) fun w M hn a _=>⟨hs_ev,hs_v hn,hs_v hn,hs_v hn,hs_v hn,hs_hue,trivial⟩
theorem hueR_pts (n:Nat→Prop) (l:List Pt):HueR n (l.map (Pt.ev n)) (l.map Pt.c):=⟨by rw [List.map_map];rfl,fun e he=>by obtain ⟨p,_,rfl⟩:=List.mem_map.1 he;exact ⟨rfl,List.cons_ne_nil _ _⟩⟩
theorem hueR_aks (n:Nat→Prop) (l:List Ak):HueR n (l.map (Ak.ev n)) (l.map Ak.c):=⟨by rw [List.map_map];rfl,fun e he=>by obtain ⟨p,_,rfl⟩:=List.mem_map.1 he;exact ⟨rfl,List.cons_ne_nil _ _⟩⟩
theorem hueR_mts (n:Nat→Prop) (l:List Mt):HueR n (l.map (Mt.ev n)) (l.map Mt.c):=⟨by rw [List.map_map];rfl,fun e he=>by obtain ⟨p,_,rfl⟩:=List.mem_map.1 he;exact ⟨rfl,List.cons_ne_nil _ _⟩⟩
theorem rfTwin_hue (n:Nat→Prop) (l:List Pt) (hl:l.length≤1000000):FnOK Tryz.prog 31 [.agg [.list 3 (l.map (Pt.ev n))]] (.c (.agg [.hue true n (pts l)])):=by
 have HR:=hueR_pts n l
 have hle:(l.map (Pt.ev n)).length≤1000000:=by rw [List.length_map];exact hl
 refine fn_ok (by kernel_rfl) (ty_okH [] [3,6] n) Tryz.func31 rfl (fun _ _=>Tryz.call31 _ _) rfl ?_
 intro hw
 clear hw
 repeat' ((conv=>whnf);first|(with_reducible first|refine br_t ?_|refine br_f ?_|refine za ?_|refine zg ?_|refine zh ?_)|refine zh ?_|refine zp ?_|refine zq ?_|(with_reducible first|refine bc (fun h => ?_) (fun h => ?_)|refine zt ?_|refine zf ?_|refine br_i (fun h => ?_) (fun h => ?_))|refine zg ?_|refine zi ?_|refine zb ?_)
 all_goals conv=>whnf
 all_goals rfl
theorem roTwin_hue (n:Nat→Prop) (m:Md) (hl:m.l.length≤1000000):FnOK Tryz.prog 15 [m.ev n] (.c (m.hu true n)):=by
 have H:=rfTwin_hue n m.l hl
 refine fn_ok (by kernel_rfl) ty_ok Tryz.func15 rfl (fun _ _=>Tryz.call15 _ _) rfl ?_
 intro hw
 clear hw
 exact zw
theorem rps_evget {n:Nat→Prop} {l:List Rp} {i:Nat} (h:i<l.length):(l.map (Rp.ev n))[((i:Nat):Int).toNat]? = some [.hue true n (i64 l[i].e),i64 l[i].i,i64 l[i].j,i64 l[i].n,i64 l[i].d,.list 4 (l[i].ms.map (Mt.ev n))]:=by
 rw [Int.toNat_natCast,List.getElem?_map,List.getElem?_eq_getElem h];rfl
theorem rgTwin_ownE (n:Nat→Prop) (x:Lg) (h1:x.s.l.length≤1000000) (h2:x.al.length≤1000000) (h3:x.rs.length≤1000000) (h4:∀ r∈x.rs,r.ms.length≤1000000):FnOwn Tryz.prog 5 [x.ev n] ⟨.c (.agg [i64 x.s.n,i64 x.s.d,.hue true n (pts x.s.l),.hue true n (aks x.al),.list 6 (x.rs.map (Rp.hu true n))]),0,4,6,x.rs.map (Rp.hu true n)⟩:=by
 have HT:=roTwin_hue n x.s h1
 have HR:=hueR_aks n x.al
 have hal:(x.al.map (Ak.ev n)).length=x.al.length:=List.length_map ..
 have hle:(x.al.map (Ak.ev n)).length≤1000000:=by rw [hal];exact h2
 have hrl:(x.rs.map (Rp.ev n)).length=x.rs.length:=List.length_map ..
 refine fn_own (by kernel_rfl) (ty_okH [35] [9,12,26,29] n) Tryz.func5 rfl (fun _ _=>Tryz.call5 _ _) rfl ?_
 intro hw
 clear hw
 repeat' ((conv=>whnf);first|(with_reducible first|refine br_t ?_|refine br_f ?_|refine za ?_|refine zg ?_|refine zo ?_|refine zh ?_)|rw [hal]|refine zp ?_|refine zq ?_|(with_reducible first|refine bc (fun h => ?_) (fun h => ?_)|refine zt ?_|refine zf ?_|refine br_i (fun h => ?_) (fun h => ?_))|refine zg ?_|refine zi ?_|refine zb ?_|refine zl ?_)
 refine loop_nameH 3 4 100 rfl rfl rfl ?_
 refine loop_J (by kernel_rfl) (ty_okH [35] [9,12,26,29] n) (σ:=Nat) (fun i=>[(4,sV (.int .i64 i))]) (fun i=>[(3,.own [.d (i64 x.s.n),.d (i64 x.s.d),.d (.hue true n (pts x.s.l)),.d (.hue true n (aks x.al)),.osl 100 0]),(100,.row 6 ((x.rs.take i).map (Rp.hu true n)) 0)]) (fun i=>i≤x.rs.length) (fun i=>x.rs.length-i) 0 (Nat.zero_le _) ?_ ?_
 ·(conv=>whnf);exact zent
 intro i hi
 have hlen:((x.rs.take i).map (Rp.hu true n)).length=i:=by rw [List.length_map,List.length_take];omega
 rcases Nat.lt_or_ge i x.rs.length with hlt|hge
 ·have g1:=rps_evget (n:=n) hlt
  have hm:=h4 _ (List.getElem_mem hlt)
  have HM:=hueR_mts n x.rs[i].ms
  have hml:((x.rs[i]).ms.map (Mt.ev n)).length≤1000000:=by rw [List.length_map];exact hm
  have hs:(x.rs.take i).map (Rp.hu true n)++[[.hue true n (i64 x.rs[i].e),i64 x.rs[i].i,i64 x.rs[i].j,i64 x.rs[i].n,i64 x.rs[i].d,.hue true n (mts x.rs[i].ms)]]=(x.rs.take (i+1)).map (Rp.hu true n):=by rw [List.take_succ_eq_append_getElem hlt,List.map_append];rfl
  generalize x.rs[i]=r at *
  repeat' ((conv=>whnf);first|(with_reducible first|refine br_t ?_|refine br_f ?_|refine za ?_|refine zg ?_|refine zo ?_|refine zh ?_)|rw [hlen]|rw [hrl]|refine zp ?_|refine zq ?_|(with_reducible first|refine bc (fun h => ?_) (fun h => ?_)|refine zt ?_|refine zf ?_|refine br_i (fun h => ?_) (fun h => ?_))|refine zg ?_|refine zi ?_|refine zb ?_|refine zl ?_)
  all_goals conv=>whnf
  refine ⟨i+1,by omega,?_,by omega⟩
  (conv=>whnf);refine ⟨by repeat' (first|with_reducible exact zE0|with_reducible refine zE1 ?_ ?_|rfl|assumption|((exact congrArg (fun x=>some (Blk.row 6 x 0)) hs))|exact zi1|exact zb1),by repeat' (first|with_reducible exact zH0|with_reducible refine zH1 ?_ ?_|rfl|assumption|((exact congrArg (fun x=>some (Blk.row 6 x 0)) hs))),rfl⟩
 ·rw [List.take_of_length_le hge]
  repeat' ((conv=>whnf);first|(with_reducible first|refine br_t ?_|refine br_f ?_|refine za ?_|refine zg ?_|refine zo ?_|refine zh ?_)|rw [hrl]|refine zp ?_|refine zq ?_|(with_reducible first|refine bc (fun h => ?_) (fun h => ?_)|refine zt ?_|refine zf ?_|refine br_i (fun h => ?_) (fun h => ?_))|refine zg ?_|refine zi ?_|refine zb ?_|refine zl ?_)
  all_goals conv=>whnf
  exact .inl ⟨100,0,_,rfl,rfl,rfl⟩
end Go.Proofs.YtddbmpbihpkabaaGreat
