import Derived.Test.YtddbmpbihpkabaaGreatGLGPartsAY
import Derived.Test.YtddbmpbihpkabaaGreatGLGPartsAX
set_option linter.all false
namespace Go.Proofs.YtddbmpbihpkabaaGreat
open Go Go.RowKit Go.Sort Sx
theorem set_same {α:Type} {l:List α} {i:Nat} (h:i<l.length):l.set i l[i]=l:=by simp
theorem gcopied_own (l:List Rp) (hl:l.length≤1000000) (hm:∀ r∈l,r.ms.length≤1000000):FnOwn Tryz.prog 22 [.one (rps l)] (ownL 6 (l.map Rp.c)):=by
 have H:=cloneRp_own (l.map Rp.c) (by simpa using hl)
 have hol:(l.map Rp.c).length=l.length:=List.length_map ..
 refine fn_own (by kernel_rfl) (ty_okK [6] [] [] []) Tryz.func22 rfl (fun _ _=>Tryz.call22 _ _) rfl ?_
 intro hw
 clear hw
 repeat' ((conv=>whnf);first|(with_reducible first|refine br_t ?_|refine br_f ?_|refine za ?_|refine zg ?_|refine zo ?_)|rw [hol]|refine zp ?_|refine zq ?_|(with_reducible first|refine bc (fun h => ?_) (fun h => ?_)|refine zt ?_|refine zf ?_|refine br_i (fun h => ?_) (fun h => ?_))|refine zg ?_|refine zi ?_|refine zb ?_|refine zl ?_)
 refine loop_keep [2,3,5,7,8,9] ?_
 conv=>whnf
 refine loop_J (by kernel_rfl) (ty_okK [6] [] [] []) (σ:=Nat) (fun i=>[(9,sV (.int .i64 i)),(3,.c (.at (.osl 6 0)))]) (fun i=>[(6,.row 6 (l.map Rp.c) 0)]) (fun i=>i≤l.length) (fun i=>l.length-i) 0 (Nat.zero_le _) ?_ ?_
 ·(conv=>whnf);exact zent
 intro i hi
 rcases Nat.lt_or_ge i l.length with hlt|hge
 ·have hel:=rps_get hlt
  have HC:=ok_of_own (cloneMt_own (l[i].ms.map Mt.c) (by rw [List.length_map];exact hm _ (List.getElem_mem hlt)))
  have hs:(l.map Rp.c).set ((i:Nat):Int).toNat [i64 l[i].e,i64 l[i].i,i64 l[i].j,i64 l[i].n,i64 l[i].d,mts l[i].ms]=l.map Rp.c:=by
   have e:=set_same (l:=l.map Rp.c) (i:=i) (by rw [hol];exact hlt)
   rw [List.getElem_map] at e
   rw [Int.toNat_natCast]
   exact e
  repeat' ((conv=>whnf);first|(with_reducible first|refine br_t ?_|refine br_f ?_|refine za ?_|refine zg ?_|refine zo ?_)|rw [hol]|refine zp ?_|refine zq ?_|(with_reducible first|refine bc (fun h => ?_) (fun h => ?_)|refine zt ?_|refine zf ?_|refine br_i (fun h => ?_) (fun h => ?_))|refine zg ?_|refine zi ?_|refine zb ?_|refine zl ?_)
  all_goals conv=>whnf
  refine ⟨i+1,by omega,?_,by omega⟩
  (conv=>whnf);refine ⟨by repeat' (first|with_reducible exact zE0|with_reducible refine zE1 ?_ ?_|rfl|assumption|((exact congrArg (fun x=>some (Blk.row 6 x 0)) hs))|exact zi1|exact zb1),by repeat' (first|with_reducible exact zH0|with_reducible refine zH1 ?_ ?_|rfl|assumption|((exact congrArg (fun x=>some (Blk.row 6 x 0)) hs))),rfl⟩
 ·obtain rfl:i=l.length:=by omega
  repeat' ((conv=>whnf);first|(with_reducible first|refine br_t ?_|refine br_f ?_|refine za ?_|refine zg ?_|refine zo ?_)|rw [hol]|refine zp ?_|refine zq ?_|(with_reducible first|refine bc (fun h => ?_) (fun h => ?_)|refine zt ?_|refine zf ?_|refine br_i (fun h => ?_) (fun h => ?_))|refine zg ?_|refine zi ?_|refine zb ?_|refine zl ?_)
  all_goals conv=>whnf
  exact .inl ⟨6,0,_,rfl,rfl,rfl⟩
end Go.Proofs.YtddbmpbihpkabaaGreat

namespace Go.Proofs.YtddbmpbihpkabaaGreat
open Go Go.RowKit Go.Sort Sx
set_option maxRecDepth 2000
theorem askV_ms {m:Md} (h:mchk m=0) (a:Ak):(askV m a).2.ms.length≤4096:=by
 obtain ⟨g1,g2⟩:=mchk_ok h
 have hb:∀ n e r t,(btw (allM m.l) n e r t).length≤4096:=fun n e r t=>by
  unfold btw;rw [List.length_drop,List.length_take];have:(allM m.l).length≤4096:=by rw [msrt_len];exact outs_len2 (fchk_ok g2).1
  omega
 unfold askV
 repeat' split
 all_goals first|exact Nat.zero_le _|exact hb _ _ _ _
theorem runs_ms:∀ {m:Md} (h:mchk m=0) (l:List Ak),∀ r∈(runs m l).2,r.ms.length≤4096
 | m,h,[],r,hr=>by cases hr
 | m,h,a::l,r,hr=>by
  rcases List.mem_cons.1 (show r∈(askV m a).2::(runs (askV m a).1 l).2 from hr) with rfl|hr
  ·exact askV_ms h a
  ·exact runs_ms (askV_ok h a) l r hr
abbrev retCut (x:Lg × Lg × Int):DV:=.tup [x.1.dc,x.2.1.dc,.one (i64 x.2.2)]
theorem gCut_fn (x:Lg) (n:Int):FnOK Tryz.prog 8 [x.dc,.one (i64 n)] (retCut (cutV x n)):=by
 have H:=gAt_fn x n
 have hal:(x.al.map Ak.c).length=x.al.length:=List.length_map ..
 have hrl:(x.rs.map Rp.c).length=x.rs.length:=List.length_map ..
 unfold cutV
 by_cases h:(latV x n).2=0
 ·rw [if_pos h]
  have h0:lchk x=0:=by
   unfold latV at h
   split at h
   ·assumption
   ·rename_i k;exact absurd h k
  obtain ⟨k1,k2,k3⟩:=lchk_ok h0
  have hn:¬ (n<0∨(x.al.length:Int)<n):=fun k=>by
   unfold latV at h
   rw [if_pos h0,if_pos k] at h
   cases h
  have hlr:x.rs.length=x.al.length:=by rw [k3,runs_len]
  obtain ⟨g1,g2⟩:=mchk_ok k2
  obtain ⟨f1,f2,f3⟩:=fchk_ok g2
  have H1:=gmodeled_fn x.s (by omega)
  have hms:∀ r∈x.rs,r.ms.length≤1000000:=fun r hr=>by
   rw [k3] at hr
   have:=runs_ms k2 _ r hr
   omega
  have H2:FnOK Tryz.prog 21 [.one (.list 7 (((x.al.map Ak.c).take n.toNat).drop (0:Int).toNat))] (.c (.one (.list 7 ((x.al.take n.toNat).map Ak.c)))):=by
   have:=ok_of_own (cloneAk_own ((x.al.map Ak.c).take n.toNat) (by rw [List.length_take];omega))
   rw [List.map_take]
   exact this
  have H3:FnOK Tryz.prog 22 [.one (.list 6 (((x.rs.map Rp.c).take n.toNat).drop (0:Int).toNat))] (.c (.one (.list 6 ((x.rs.take n.toNat).map Rp.c)))):=by
   have:=ok_of_own (gcopied_own (x.rs.take n.toNat) (by rw [List.length_take];omega) fun r hr=>hms r (List.mem_of_mem_take hr))
   rw [rps,List.map_take] at this
   rw [List.map_take]
   exact this
  have H4:FnOK Tryz.prog 21 [.one (.list 7 (((x.al.map Ak.c).take ((x.al.length:Nat):Int).toNat).drop n.toNat))] (.c (.one (.list 7 ((x.al.drop n.toNat).map Ak.c)))):=by
   rw [List.take_of_length_le (by rw [hal];omega),← List.map_drop]
   exact ok_of_own (cloneAk_own _ (by rw [List.length_map,List.length_drop];omega))
  have H5:FnOK Tryz.prog 22 [.one (.list 6 (((x.rs.map Rp.c).take ((x.rs.length:Nat):Int).toNat).drop n.toNat))] (.c (.one (.list 6 ((x.rs.drop n.toNat).map Rp.c)))):=by
   rw [List.take_of_length_le (by rw [hrl];omega),← List.map_drop]
   exact ok_of_own (gcopied_own (x.rs.drop n.toNat) (by rw [List.length_drop];omega) fun r hr=>hms r (List.mem_of_mem_drop hr))
  generalize latV x n=z at *
  obtain ⟨z,e⟩:=z
  dsimp only at h H ⊢
  subst h
  clear k3 h0
  refine fn_ok (by kernel_rfl) ty_ok Tryz.func8 rfl (fun _ _=>Tryz.call8 _ _) rfl ?_
  intro hw
  clear hw
  repeat' ((conv=>whnf);first|(with_reducible first|refine br_t ?_|refine br_f ?_|refine za ?_|refine zg ?_)|rw [hal]|rw [hrl]|refine zp ?_|refine zq ?_|(with_reducible first|refine bc (fun h => ?_) (fun h => ?_)|refine zt ?_|refine zf ?_|refine br_i (fun h => ?_) (fun h => ?_))|refine zg ?_|refine zi ?_|refine zb ?_)
  all_goals conv=>whnf
  all_goals rfl
 ·rw [if_neg h]
  generalize latV x n=z at *
  obtain ⟨z,e⟩:=z
  dsimp only at h H ⊢
  refine fn_ok (by kernel_rfl) ty_ok Tryz.func8 rfl (fun _ _=>Tryz.call8 _ _) rfl ?_
  intro hw
  clear hw
  exact zw
end Go.Proofs.YtddbmpbihpkabaaGreat

namespace Go.Proofs.YtddbmpbihpkabaaGreat
open Go Go.RowKit Go.Sort Sx
set_option maxRecDepth 2000
theorem gCut_hue (n:Nat→Prop) {x:Lg} (h0:lchk x=0) {k:Int} (hn:¬ (k<0∨(x.al.length:Int)<k)):FnOK Tryz.prog 8 [x.ev n,.one (i64 k)] (.tup [Lg.hu false n ⟨x.s,x.al.take k.toNat,x.rs.take k.toNat⟩,Lg.hu false n ⟨(latV x k).1,x.al.drop k.toNat,x.rs.drop k.toNat⟩,.one (i64 0)]):=by
 have H:=gAt_hue n h0 hn
 have hal:(x.al.map (Ak.ev n)).length=x.al.length:=List.length_map ..
 have hrl:(x.rs.map (Rp.ev n)).length=x.rs.length:=List.length_map ..
 obtain ⟨k1,k2,k3⟩:=lchk_ok h0
 have hlr:x.rs.length=x.al.length:=by rw [k3,runs_len]
 obtain ⟨g1,g2⟩:=mchk_ok k2
 obtain ⟨f1,f2,f3⟩:=fchk_ok g2
 have H1:FnOK Tryz.prog 20 [x.s.ev n] (.c (x.s.hu false n)):=ok_wkR (gmodeled_hue n x.s (by omega)) ⟨.refl _,.refl _,wk_false,trivial⟩
 have hms:∀ r∈x.rs,r.ms.length≤1000000:=fun r hr=>by
  rw [k3] at hr
  have:=runs_ms k2 _ r hr
  omega
 have H2:FnOK Tryz.prog 21 [.one (.list 7 (((x.al.map (Ak.ev n)).take k.toNat).drop (0:Int).toNat))] (.c (.one (.hue false n (aks (x.al.take k.toNat))))):=by
  have:=ok_wkR (cloneAk_hue n (x.al.take k.toNat) (by rw [List.length_take];omega)) (r':=.c (.one (.hue false n (aks (x.al.take k.toNat))))) wk_false
  rw [List.map_take] at this
  exact this
 have H3:FnOK Tryz.prog 22 [.one (.list 6 (((x.rs.map (Rp.ev n)).take k.toNat).drop (0:Int).toNat))] (.c (.one (.hue false n (rps (x.rs.take k.toNat))))):=by
  have:=ok_wkR (gcopied_hue n (x.rs.take k.toNat) (by rw [List.length_take];omega) fun r hr=>hms r (List.mem_of_mem_take hr)) (r':=.c (.one (.hue false n (rps (x.rs.take k.toNat))))) wk_false
  rw [List.map_take] at this
  exact this
 have H4:FnOK Tryz.prog 21 [.one (.list 7 (((x.al.map (Ak.ev n)).take ((x.al.length:Nat):Int).toNat).drop k.toNat))] (.c (.one (.hue false n (aks (x.al.drop k.toNat))))):=by
  rw [List.take_of_length_le (by rw [hal];omega),← List.map_drop]
  exact ok_wkR (cloneAk_hue n _ (by rw [List.length_drop];omega)) wk_false
 have H5:FnOK Tryz.prog 22 [.one (.list 6 (((x.rs.map (Rp.ev n)).take ((x.rs.length:Nat):Int).toNat).drop k.toNat))] (.c (.one (.hue false n (rps (x.rs.drop k.toNat))))):=by
  rw [List.take_of_length_le (by rw [hrl];omega),← List.map_drop]
  exact ok_wkR (gcopied_hue n (x.rs.drop k.toNat) (by rw [List.length_drop];omega) fun r hr=>hms r (List.mem_of_mem_drop hr)) wk_false
 generalize (latV x k).1=z at *
 clear k3 h0
 refine fn_ok (by kernel_rfl) ty_ok Tryz.func8 rfl (fun _ _=>Tryz.call8 _ _) rfl ?_
 intro hw
 clear hw
 repeat' ((conv=>whnf);first|(with_reducible first|refine br_t ?_|refine br_f ?_|refine za ?_|refine zg ?_)|rw [hal]|rw [hrl]|refine zp ?_|refine zq ?_|(with_reducible first|refine bc (fun h => ?_) (fun h => ?_)|refine zt ?_|refine zf ?_|refine br_i (fun h => ?_) (fun h => ?_))|refine zg ?_|refine zi ?_|refine zb ?_)
 all_goals conv=>whnf
 all_goals rfl
end Go.Proofs.YtddbmpbihpkabaaGreat

namespace Go.Proofs.YtddbmpbihpkabaaGreat
open Go Go.RowKit Go.Sort Sx
theorem rep_lol {w:World} {M:Nat→Prop} {A B:List (List D)} {v:Value} (h:Rep w M (.list 1 [[.list 7 A],[.list 7 B]]) v):(∃ a,Rep w M (.list 7 A) a)∧∃ b,Rep w M (.list 7 B) b:=by
 cases h with
 | list vs hc hm hM hb hk hv hr =>
  exact ⟨⟨_,hr 0 0 (Nat.zero_lt_succ _) (Nat.zero_lt_succ _)⟩,⟨_,hr 1 0 (Nat.succ_lt_succ (Nat.zero_lt_succ _)) (Nat.zero_lt_succ _)⟩⟩
theorem catAk_hue (n:Nat→Prop) (a b:List Ak) (hl:a.length+b.length≤1000000):FnOK Tryz.prog 25 [.one (.list 1 [[.list 7 (a.map (Ak.ev n))],[.list 7 (b.map (Ak.ev n))]])] (.c (.one (.hue true n (aks (a++b))))):=by
 have H:=catAk_own [a.map (Ak.ev n),b.map (Ak.ev n)] (by simp;omega) (by simp)
 have e:([a.map (Ak.ev n),b.map (Ak.ev n)]:List (List (List D))).flatten=(a++b).map (Ak.ev n):=by simp
 rw [e] at H
 refine hue_of_own (g:=Ak.c) H (fun w M vs hvs hne => ?_) fun w M hn a _=>⟨hs_ev,hs_v hn,hs_v hn,hs_v hn,hs_v hn,hs_v hn,hs_v hn,trivial⟩
 match vs,hvs with
 | [v],⟨h,_⟩ =>
  obtain ⟨⟨x,hx⟩,⟨y,hy⟩⟩:=rep_lol h
  by_cases h0:a=[]
  ·have h1:b≠[]:=fun e=>hne (by rw [h0,e];rfl)
   exact rep_evL (fun a=>⟨_,_,rfl⟩) hy h1
  ·exact rep_evL (fun a=>⟨_,_,rfl⟩) hx h0
set_option maxRecDepth 100000 in
set_option maxHeartbeats 8000000 in
theorem gJoin_ownE (n:Nat→Prop) {x y:Lg} (h1:lchk x=0) (h2:lchk y=0) (h3:(runs x.s x.al).1=y.s) (h4:x.al.length+y.al.length≤120):FnOwn Tryz.prog 10 [x.ev n,y.ev n] ⟨.tup [.agg [i64 x.s.n,i64 x.s.d,.hue true n (pts x.s.l),.hue true n (aks (x.al++y.al)),.list 6 ((x.rs++y.rs).map (Rp.hu true n))],.one (i64 0)],0,4,6,(x.rs++y.rs).map (Rp.hu true n)⟩:=by
 have C1:FnOK Tryz.prog 16 [x.ev n] (ret1 0):=by
  have:=gCheck_fn x
  rw [h1] at this
  exact ok_wk this ⟨wk_lg x,trivial⟩
 have C2:FnOK Tryz.prog 16 [y.ev n] (ret1 0):=by
  have:=gCheck_fn y
  rw [h2] at this
  exact ok_wk this ⟨wk_lg y,trivial⟩
 obtain ⟨k1,k2,k3⟩:=lchk_ok h1
 obtain ⟨j1,j2,j3⟩:=lchk_ok h2
 have hA:latV x ((x.al.length:Nat):Int)=(y.s,0):=by
  unfold latV
  rw [if_pos h1,if_neg (by omega),Int.toNat_natCast,List.take_length,h3]
 have A:FnOK Tryz.prog 6 [x.ev n,.one (i64 ((x.al.length:Nat):Int))] (.tup [y.s.dc,.one (i64 0)]):=by
  have:=gAt_fn x ((x.al.length:Nat):Int)
  rw [hA] at this
  exact ok_wk this ⟨wk_lg x,.refl _,trivial⟩
 have Q:FnOK Tryz.prog 24 [.one (pts y.s.l),.one (.list 3 (y.s.l.map (Pt.ev n)))] (.c (.one (bol true))):=by
  have:=eqPt_fn y.s.l y.s.l
  rw [decide_eq_true rfl] at this
  exact ok_wk this ⟨.refl _,wk_pts _,trivial⟩
 obtain ⟨g1,g2⟩:=mchk_ok k2
 obtain ⟨f1,f2,f3⟩:=fchk_ok g2
 have M:=gmodeled_hue n x.s (by omega)
 have hlx:x.rs.length=x.al.length:=by rw [k3,runs_len]
 have hly:y.rs.length=y.al.length:=by rw [j3,runs_len]
 have P1:=gcopied_ownE n x.rs (by omega) fun r hr=>by
  rw [k3] at hr
  have:=runs_ms k2 _ r hr
  omega
 have P2:=ok_of_own (gcopied_ownE n y.rs (by omega) fun r hr=>by
  rw [j3] at hr
  have:=runs_ms j2 _ r hr
  omega)
 have HC:=catAk_hue n x.al y.al (by omega)
 have hal:(x.al.map (Ak.ev n)).length=x.al.length:=List.length_map ..
 have hbl:(y.al.map (Ak.ev n)).length=y.al.length:=List.length_map ..
 have hxl:(x.rs.map (Rp.hu true n)).length=x.rs.length:=List.length_map ..
 have hyl:(y.rs.map (Rp.hu true n)).length=y.rs.length:=List.length_map ..
 have hrr:x.rs.map (Rp.hu true n)++y.rs.map (Rp.hu true n)=(x.rs++y.rs).map (Rp.hu true n):=(List.map_append ..).symm
 rw [← hrr]
 have hlen:(x.rs.map (Rp.hu true n)++y.rs.map (Rp.hu true n)).length≤1000000:=by rw [List.length_append];omega
 clear hA h1 h2 k3 j3 g1 g2 f1 f2 f3 k2 j2 hrr
 obtain ⟨⟨m,d,l⟩,a,r⟩:=x
 obtain ⟨⟨m',d',l'⟩,a',r'⟩:=y
 simp only [Lg.ev,Md.ev,Md.dc,Md.hu] at *
 have h4:a.length+a'.length≤120:=h4
 have hwr:IntKind.i64.wrap (((a.length:Nat):Int)+((a'.length:Nat):Int))=((a.length+a'.length:Nat):Int):=by rw [IntWalk.i64_in _ (by omega)];omega
 refine fn_own (by kernel_rfl) (ty_okK [76,80] [] [] []) Tryz.func10 rfl (fun _ _=>Tryz.call10 _ _) rfl ?_
 intro hw
 clear hw
 repeat' ((conv=>whnf);first|(with_reducible first|refine br_t ?_|refine br_f ?_|refine za ?_|refine zg ?_|refine zo ?_)|refine zp ?_|refine zq ?_|(with_reducible first|refine bc (fun h => ?_) (fun h => ?_)|refine zt ?_|refine zf ?_|refine br_i (fun h => ?_) (fun h => ?_)|refine xi (pv_bool fun _=>nev23 _ _ _ _ _ _ _) ?_)|refine zg ?_|refine zi ?_|refine zb ?_|refine zl ?_)
 all_goals conv=>whnf
 refine loop_J (by kernel_rfl) (ty_okK [76,80] [] [] []) (σ:=Nat) (fun i=>[(15,sV (.int .i64 i))]) (fun _=>[]) (fun i=>i≤2) (fun i=>2-i) 0 (Nat.zero_le _) ?_ ?_
 ·(conv=>whnf);exact zent
 intro i hi
 have hl2:([[i64 m,i64 d,.list 3 (l.map (Pt.ev n)),.list 7 (a.map (Ak.ev n)),.list 6 (r.map (Rp.ev n))],[i64 m',i64 d',.list 3 (l'.map (Pt.ev n)),.list 7 (a'.map (Ak.ev n)),.list 6 (r'.map (Rp.ev n))]]:List (List D)).length=2:=rfl
 rcases (show i=0∨i=1∨i=2 by omega) with rfl|rfl|rfl
 ·have el:([[i64 m,i64 d,.list 3 (l.map (Pt.ev n)),.list 7 (a.map (Ak.ev n)),.list 6 (r.map (Rp.ev n))],[i64 m',i64 d',.list 3 (l'.map (Pt.ev n)),.list 7 (a'.map (Ak.ev n)),.list 6 (r'.map (Rp.ev n))]]:List (List D))[((0:Nat):Int).toNat]? = some [i64 m,i64 d,.list 3 (l.map (Pt.ev n)),.list 7 (a.map (Ak.ev n)),.list 6 (r.map (Rp.ev n))]:=rfl
  repeat' ((conv=>whnf);first|(with_reducible first|refine br_t ?_|refine br_f ?_|refine za ?_|refine zg ?_|refine zo ?_)|rw [hl2]|refine zp ?_|refine zq ?_|(with_reducible first|refine bc (fun h => ?_) (fun h => ?_)|refine zt ?_|refine zf ?_|refine br_i (fun h => ?_) (fun h => ?_)|refine xi (pv_bool fun _=>nev23 _ _ _ _ _ _ _) ?_)|refine zg ?_|refine zi ?_|refine zb ?_|refine zl ?_)
  all_goals conv=>whnf
  refine ⟨1,by omega,?_,by omega⟩
  (conv=>whnf);exact zent
 ·have el:([[i64 m,i64 d,.list 3 (l.map (Pt.ev n)),.list 7 (a.map (Ak.ev n)),.list 6 (r.map (Rp.ev n))],[i64 m',i64 d',.list 3 (l'.map (Pt.ev n)),.list 7 (a'.map (Ak.ev n)),.list 6 (r'.map (Rp.ev n))]]:List (List D))[((1:Nat):Int).toNat]? = some [i64 m',i64 d',.list 3 (l'.map (Pt.ev n)),.list 7 (a'.map (Ak.ev n)),.list 6 (r'.map (Rp.ev n))]:=rfl
  repeat' ((conv=>whnf);first|(with_reducible first|refine br_t ?_|refine br_f ?_|refine za ?_|refine zg ?_|refine zo ?_)|rw [hl2]|refine zp ?_|refine zq ?_|(with_reducible first|refine bc (fun h => ?_) (fun h => ?_)|refine zt ?_|refine zf ?_|refine br_i (fun h => ?_) (fun h => ?_)|refine xi (pv_bool fun _=>nev23 _ _ _ _ _ _ _) ?_)|refine zg ?_|refine zi ?_|refine zb ?_|refine zl ?_)
  all_goals conv=>whnf
  refine ⟨2,by omega,?_,by omega⟩
  (conv=>whnf);exact zent
 ·repeat' ((conv=>whnf);first|(with_reducible first|refine br_t ?_|refine br_f ?_|refine za ?_|refine zg ?_|refine zo ?_)|rw [hl2]|rw [hal]|rw [hbl]|rw [hwr]|refine zp ?_|refine zq ?_|(with_reducible first|refine bc (fun h => ?_) (fun h => ?_)|refine zt ?_|refine zf ?_|refine br_i (fun h => ?_) (fun h => ?_)|refine xi (pv_bool fun _=>nev23 _ _ _ _ _ _ _) ?_)|refine zg ?_|refine zi ?_|refine zb ?_|refine zl ?_)
  all_goals conv=>whnf
  exact .inl ⟨76,1,_,rfl,rfl,rfl⟩
theorem gJoin_hue (n:Nat→Prop) {x y:Lg} (h1:lchk x=0) (h2:lchk y=0) (h3:(runs x.s x.al).1=y.s) (h4:x.al.length+y.al.length≤120):FnOK Tryz.prog 10 [x.ev n,y.ev n] (.tup [Lg.hu true n ⟨x.s,x.al++y.al,x.rs++y.rs⟩,.one (i64 0)]):=by
 refine hue_of_ownT (g:=Rp.c) (gJoin_ownE n h1 h2 h3 h4) (fun w M vs hvs hne => ?_) fun w M hn a _=>⟨hs_ev,hs_v hn,hs_v hn,hs_v hn,hs_v hn,hs_hue,trivial⟩
 match vs,hvs with
 | [v,u],⟨⟨xs,_,hx⟩,⟨ys,_,hy⟩,_⟩ =>
  match xs,hx,ys,hy with
  | [_,_,_,_,_],⟨_,_,_,_,a5,_⟩,[_,_,_,_,_],⟨_,_,_,_,b5,_⟩ =>
   by_cases h0:x.rs=[]
   ·have h5:y.rs≠[]:=fun e=>hne (by rw [h0,e];rfl)
    exact rep_evL (fun a=>⟨_,_,rfl⟩) b5 h5
   ·exact rep_evL (fun a=>⟨_,_,rfl⟩) a5 h0
end Go.Proofs.YtddbmpbihpkabaaGreat

namespace Go.Proofs.YtddbmpbihpkabaaGreat
open Go Go.RowKit Go.Sort Sx
set_option maxRecDepth 2000
end Go.Proofs.YtddbmpbihpkabaaGreat

namespace Go.Proofs.YtddbmpbihpkabaaGreat
open Go Go.RowKit Go.Sort Sx
set_option maxRecDepth 2000
set_option maxRecDepth 100000 in
set_option maxHeartbeats 8000000 in
theorem gJoin_bad1 {x y:Lg} (h1:lchk x≠0):FnOK Tryz.prog 10 [x.dc,y.dc] (retG (lg0,lchk x)):=by
 have C1:=gCheck_fn x
 generalize lchk x=e at *
 obtain ⟨⟨n,d,l⟩,a,r⟩:=x
 obtain ⟨⟨n',d',l'⟩,a',r'⟩:=y
 simp only [Lg.dc] at *
 refine fn_ok (by kernel_rfl) ty_ok Tryz.func10 rfl (fun _ _=>Tryz.call10 _ _) rfl ?_
 intro hw
 clear hw
 repeat' ((conv=>whnf);first|(with_reducible first|refine br_t ?_|refine br_f ?_|refine za ?_|refine zg ?_)|refine zp ?_|refine zq ?_|(with_reducible first|refine bc (fun h => ?_) (fun h => ?_)|refine zt ?_|refine zf ?_|refine br_i (fun h => ?_) (fun h => ?_)|refine xi (pv_bool fun _=>nev23 _ _ _ _ _ _ _) ?_)|refine zg ?_|refine zi ?_|refine zb ?_)
 all_goals conv=>whnf
 refine loop_J (by kernel_rfl) ty_ok (σ:=Nat) (fun i=>[(15,sV (.int .i64 i))]) (fun _=>[]) (fun i=>i=0) (fun i=>2-i) 0 rfl ?_ ?_
 ·(conv=>whnf);exact zent
 rintro i rfl
 have hl2:([[i64 n,i64 d,pts l,aks a,rps r],[i64 n',i64 d',pts l',aks a',rps r']]:List (List D)).length=2:=rfl
 have el:([[i64 n,i64 d,pts l,aks a,rps r],[i64 n',i64 d',pts l',aks a',rps r']]:List (List D))[((0:Nat):Int).toNat]? = some [i64 n,i64 d,pts l,aks a,rps r]:=rfl
 repeat' ((conv=>whnf);first|(with_reducible first|refine br_t ?_|refine br_f ?_|refine za ?_|refine zg ?_)|rw [hl2]|refine zp ?_|refine zq ?_|(with_reducible first|refine bc (fun h => ?_) (fun h => ?_)|refine zt ?_|refine zf ?_|refine br_i (fun h => ?_) (fun h => ?_)|refine xi (pv_bool fun _=>nev23 _ _ _ _ _ _ _) ?_)|refine zg ?_|refine zi ?_|refine zb ?_)
 all_goals conv=>whnf
 all_goals rfl
set_option maxRecDepth 100000 in
set_option maxHeartbeats 8000000 in
theorem gJoin_bad2 {x y:Lg} (h1:lchk x=0) (h2:lchk y≠0):FnOK Tryz.prog 10 [x.dc,y.dc] (retG (lg0,lchk y)):=by
 have C1:=gCheck_fn x
 have C2:=gCheck_fn y
 rw [h1] at C1
 clear h1
 generalize lchk y=e at *
 obtain ⟨⟨n,d,l⟩,a,r⟩:=x
 obtain ⟨⟨n',d',l'⟩,a',r'⟩:=y
 simp only [Lg.dc] at *
 refine fn_ok (by kernel_rfl) ty_ok Tryz.func10 rfl (fun _ _=>Tryz.call10 _ _) rfl ?_
 intro hw
 clear hw
 repeat' ((conv=>whnf);first|(with_reducible first|refine br_t ?_|refine br_f ?_|refine za ?_|refine zg ?_)|refine zp ?_|refine zq ?_|(with_reducible first|refine bc (fun h => ?_) (fun h => ?_)|refine zt ?_|refine zf ?_|refine br_i (fun h => ?_) (fun h => ?_)|refine xi (pv_bool fun _=>nev23 _ _ _ _ _ _ _) ?_)|refine zg ?_|refine zi ?_|refine zb ?_)
 all_goals conv=>whnf
 refine loop_J (by kernel_rfl) ty_ok (σ:=Nat) (fun i=>[(15,sV (.int .i64 i))]) (fun _=>[]) (fun i=>i≤1) (fun i=>2-i) 0 (Nat.zero_le _) ?_ ?_
 ·(conv=>whnf);exact zent
 intro i hi
 have hl2:([[i64 n,i64 d,pts l,aks a,rps r],[i64 n',i64 d',pts l',aks a',rps r']]:List (List D)).length=2:=rfl
 rcases (show i=0∨i=1 by omega) with rfl|rfl
 ·have el:([[i64 n,i64 d,pts l,aks a,rps r],[i64 n',i64 d',pts l',aks a',rps r']]:List (List D))[((0:Nat):Int).toNat]? = some [i64 n,i64 d,pts l,aks a,rps r]:=rfl
  repeat' ((conv=>whnf);first|(with_reducible first|refine br_t ?_|refine br_f ?_|refine za ?_|refine zg ?_)|rw [hl2]|refine zp ?_|refine zq ?_|(with_reducible first|refine bc (fun h => ?_) (fun h => ?_)|refine zt ?_|refine zf ?_|refine br_i (fun h => ?_) (fun h => ?_)|refine xi (pv_bool fun _=>nev23 _ _ _ _ _ _ _) ?_)|refine zg ?_|refine zi ?_|refine zb ?_)
  all_goals conv=>whnf
  refine ⟨1,by omega,?_,by omega⟩
  (conv=>whnf);exact zent
 ·have el:([[i64 n,i64 d,pts l,aks a,rps r],[i64 n',i64 d',pts l',aks a',rps r']]:List (List D))[((1:Nat):Int).toNat]? = some [i64 n',i64 d',pts l',aks a',rps r']:=rfl
  repeat' ((conv=>whnf);first|(with_reducible first|refine br_t ?_|refine br_f ?_|refine za ?_|refine zg ?_)|rw [hl2]|refine zp ?_|refine zq ?_|(with_reducible first|refine bc (fun h => ?_) (fun h => ?_)|refine zt ?_|refine zf ?_|refine br_i (fun h => ?_) (fun h => ?_)|refine xi (pv_bool fun _=>nev23 _ _ _ _ _ _ _) ?_)|refine zg ?_|refine zi ?_|refine zb ?_)
  all_goals conv=>whnf
  all_goals rfl
set_option maxRecDepth 100000 in
set_option maxHeartbeats 8000000 in
theorem gJoin_order {x y:Lg} {f:List Pt} (h1:lchk x=0) (h2:lchk y=0) (h3:(runs x.s x.al).1=⟨y.s.n,y.s.d,f⟩) (h4:f≠y.s.l):FnOK Tryz.prog 10 [x.dc,y.dc] (retG (lg0,32)):=by
 have C1:=gCheck_fn x
 have C2:=gCheck_fn y
 rw [h1] at C1
 rw [h2] at C2
 obtain ⟨k1,k2,k3⟩:=lchk_ok h1
 obtain ⟨j1,j2,j3⟩:=lchk_ok h2
 have A:=gAt_fn x ((x.al.length:Nat):Int)
 have hA:latV x ((x.al.length:Nat):Int)=(⟨y.s.n,y.s.d,f⟩,0):=by
  unfold latV
  rw [if_pos h1,if_neg (by omega),Int.toNat_natCast,List.take_length,h3]
 rw [hA] at A
 have Q:=eqPt_fn f y.s.l
 rw [decide_eq_false h4] at Q
 have hal:(x.al.map Ak.c).length=x.al.length:=List.length_map ..
 clear hA h1 h2 k3 j3 k2 j2 h3 h4
 obtain ⟨⟨n,d,l⟩,a,r⟩:=x
 obtain ⟨⟨n',d',l'⟩,a',r'⟩:=y
 simp only [Lg.dc,Md.dc] at *
 refine fn_ok (by kernel_rfl) ty_ok Tryz.func10 rfl (fun _ _=>Tryz.call10 _ _) rfl ?_
 intro hw
 clear hw
 repeat' ((conv=>whnf);first|(with_reducible first|refine br_t ?_|refine br_f ?_|refine za ?_|refine zg ?_)|refine zp ?_|refine zq ?_|(with_reducible first|refine bc (fun h => ?_) (fun h => ?_)|refine zt ?_|refine zf ?_|refine br_i (fun h => ?_) (fun h => ?_)|refine xi (pv_bool fun _=>nev23 _ _ _ _ _ _ _) ?_)|refine zg ?_|refine zi ?_|refine zb ?_)
 all_goals conv=>whnf
 refine loop_J (by kernel_rfl) ty_ok (σ:=Nat) (fun i=>[(15,sV (.int .i64 i))]) (fun _=>[]) (fun i=>i≤2) (fun i=>2-i) 0 (Nat.zero_le _) ?_ ?_
 ·(conv=>whnf);exact zent
 intro i hi
 have hl2:([[i64 n,i64 d,pts l,aks a,rps r],[i64 n',i64 d',pts l',aks a',rps r']]:List (List D)).length=2:=rfl
 rcases (show i=0∨i=1∨i=2 by omega) with rfl|rfl|rfl
 ·have el:([[i64 n,i64 d,pts l,aks a,rps r],[i64 n',i64 d',pts l',aks a',rps r']]:List (List D))[((0:Nat):Int).toNat]? = some [i64 n,i64 d,pts l,aks a,rps r]:=rfl
  repeat' ((conv=>whnf);first|(with_reducible first|refine br_t ?_|refine br_f ?_|refine za ?_|refine zg ?_)|rw [hl2]|refine zp ?_|refine zq ?_|(with_reducible first|refine bc (fun h => ?_) (fun h => ?_)|refine zt ?_|refine zf ?_|refine br_i (fun h => ?_) (fun h => ?_)|refine xi (pv_bool fun _=>nev23 _ _ _ _ _ _ _) ?_)|refine zg ?_|refine zi ?_|refine zb ?_)
  all_goals conv=>whnf
  refine ⟨1,by omega,?_,by omega⟩
  (conv=>whnf);exact zent
 ·have el:([[i64 n,i64 d,pts l,aks a,rps r],[i64 n',i64 d',pts l',aks a',rps r']]:List (List D))[((1:Nat):Int).toNat]? = some [i64 n',i64 d',pts l',aks a',rps r']:=rfl
  repeat' ((conv=>whnf);first|(with_reducible first|refine br_t ?_|refine br_f ?_|refine za ?_|refine zg ?_)|rw [hl2]|refine zp ?_|refine zq ?_|(with_reducible first|refine bc (fun h => ?_) (fun h => ?_)|refine zt ?_|refine zf ?_|refine br_i (fun h => ?_) (fun h => ?_)|refine xi (pv_bool fun _=>nev23 _ _ _ _ _ _ _) ?_)|refine zg ?_|refine zi ?_|refine zb ?_)
  all_goals conv=>whnf
  refine ⟨2,by omega,?_,by omega⟩
  (conv=>whnf);exact zent
 ·repeat' ((conv=>whnf);first|(with_reducible first|refine br_t ?_|refine br_f ?_|refine za ?_|refine zg ?_)|rw [hl2]|rw [hal]|refine zp ?_|refine zq ?_|(with_reducible first|refine bc (fun h => ?_) (fun h => ?_)|refine zt ?_|refine zf ?_|refine br_i (fun h => ?_) (fun h => ?_)|refine xi (pv_bool fun _=>nev23 _ _ _ _ _ _ _) ?_)|refine zg ?_|refine zi ?_|refine zb ?_)
  all_goals conv=>whnf
  all_goals rfl
set_option maxRecDepth 100000 in
set_option maxHeartbeats 8000000 in
theorem gJoin_many {x y:Lg} (h1:lchk x=0) (h2:lchk y=0) (h3:(runs x.s x.al).1=y.s) (h4:120<x.al.length+y.al.length):FnOK Tryz.prog 10 [x.dc,y.dc] (retG (lg0,4)):=by
 have C1:=gCheck_fn x
 have C2:=gCheck_fn y
 rw [h1] at C1
 rw [h2] at C2
 obtain ⟨k1,k2,k3⟩:=lchk_ok h1
 obtain ⟨j1,j2,j3⟩:=lchk_ok h2
 have A:=gAt_fn x ((x.al.length:Nat):Int)
 have hA:latV x ((x.al.length:Nat):Int)=(y.s,0):=by
  unfold latV
  rw [if_pos h1,if_neg (by omega),Int.toNat_natCast,List.take_length,h3]
 rw [hA] at A
 have Q:=eqPt_fn y.s.l y.s.l
 rw [decide_eq_true rfl] at Q
 have hal:(x.al.map Ak.c).length=x.al.length:=List.length_map ..
 have hbl:(y.al.map Ak.c).length=y.al.length:=List.length_map ..
 clear hA h1 h2 k3 j3 k2 j2 h3
 obtain ⟨⟨n,d,l⟩,a,r⟩:=x
 obtain ⟨⟨n',d',l'⟩,a',r'⟩:=y
 simp only [Lg.dc,Md.dc] at *
 have h4:120<a.length+a'.length:=h4
 have k1:a.length≤120:=k1
 have j1:a'.length≤120:=j1
 have hwr:IntKind.i64.wrap (((a.length:Nat):Int)+((a'.length:Nat):Int))=((a.length+a'.length:Nat):Int):=by rw [IntWalk.i64_in _ (by omega)];omega
 refine fn_ok (by kernel_rfl) ty_ok Tryz.func10 rfl (fun _ _=>Tryz.call10 _ _) rfl ?_
 intro hw
 clear hw
 repeat' ((conv=>whnf);first|(with_reducible first|refine br_t ?_|refine br_f ?_|refine za ?_|refine zg ?_)|refine zp ?_|refine zq ?_|(with_reducible first|refine bc (fun h => ?_) (fun h => ?_)|refine zt ?_|refine zf ?_|refine br_i (fun h => ?_) (fun h => ?_)|refine xi (pv_bool fun _=>nev23 _ _ _ _ _ _ _) ?_)|refine zg ?_|refine zi ?_|refine zb ?_)
 all_goals conv=>whnf
 refine loop_J (by kernel_rfl) ty_ok (σ:=Nat) (fun i=>[(15,sV (.int .i64 i))]) (fun _=>[]) (fun i=>i≤2) (fun i=>2-i) 0 (Nat.zero_le _) ?_ ?_
 ·(conv=>whnf);exact zent
 intro i hi
 have hl2:([[i64 n,i64 d,pts l,aks a,rps r],[i64 n',i64 d',pts l',aks a',rps r']]:List (List D)).length=2:=rfl
 rcases (show i=0∨i=1∨i=2 by omega) with rfl|rfl|rfl
 ·have el:([[i64 n,i64 d,pts l,aks a,rps r],[i64 n',i64 d',pts l',aks a',rps r']]:List (List D))[((0:Nat):Int).toNat]? = some [i64 n,i64 d,pts l,aks a,rps r]:=rfl
  repeat' ((conv=>whnf);first|(with_reducible first|refine br_t ?_|refine br_f ?_|refine za ?_|refine zg ?_)|rw [hl2]|refine zp ?_|refine zq ?_|(with_reducible first|refine bc (fun h => ?_) (fun h => ?_)|refine zt ?_|refine zf ?_|refine br_i (fun h => ?_) (fun h => ?_)|refine xi (pv_bool fun _=>nev23 _ _ _ _ _ _ _) ?_)|refine zg ?_|refine zi ?_|refine zb ?_)
  all_goals conv=>whnf
  refine ⟨1,by omega,?_,by omega⟩
  (conv=>whnf);exact zent
 ·have el:([[i64 n,i64 d,pts l,aks a,rps r],[i64 n',i64 d',pts l',aks a',rps r']]:List (List D))[((1:Nat):Int).toNat]? = some [i64 n',i64 d',pts l',aks a',rps r']:=rfl
  repeat' ((conv=>whnf);first|(with_reducible first|refine br_t ?_|refine br_f ?_|refine za ?_|refine zg ?_)|rw [hl2]|refine zp ?_|refine zq ?_|(with_reducible first|refine bc (fun h => ?_) (fun h => ?_)|refine zt ?_|refine zf ?_|refine br_i (fun h => ?_) (fun h => ?_)|refine xi (pv_bool fun _=>nev23 _ _ _ _ _ _ _) ?_)|refine zg ?_|refine zi ?_|refine zb ?_)
  all_goals conv=>whnf
  refine ⟨2,by omega,?_,by omega⟩
  (conv=>whnf);exact zent
 ·repeat' ((conv=>whnf);first|(with_reducible first|refine br_t ?_|refine br_f ?_|refine za ?_|refine zg ?_)|rw [hl2]|rw [hal]|rw [hbl]|rw [hwr]|refine zp ?_|refine zq ?_|(with_reducible first|refine bc (fun h => ?_) (fun h => ?_)|refine zt ?_|refine zf ?_|refine br_i (fun h => ?_) (fun h => ?_)|refine xi (pv_bool fun _=>nev23 _ _ _ _ _ _ _) ?_)|refine zg ?_|refine zi ?_|refine zb ?_)
  all_goals conv=>whnf
  all_goals rfl
end Go.Proofs.YtddbmpbihpkabaaGreat

namespace Go.Proofs.YtddbmpbihpkabaaGreat
open Go Go.RowKit Go.Sort Sx
set_option maxRecDepth 2000
theorem rgasked_fn (x:Lg) (k:Int):FnOK Tryz.prog 18 [x.dc,.one (i64 k)] (ret1 (latV x k).2):=by
 have H:=rgCheck_fn x
 have hal:(x.al.map Ak.c).length=x.al.length:=List.length_map ..
 unfold latV
 by_cases h:lchk x=0
 ·rw [if_pos h]
  rw [h] at H
  by_cases h1:k<0∨(x.al.length:Int)<k
  ·rw [if_pos h1]
   refine fn_ok (by kernel_rfl) ty_ok Tryz.func18 rfl (fun _ _=>Tryz.call18 _ _) rfl ?_
   intro hw
   clear hw
   repeat' ((conv=>whnf);first|(with_reducible first|refine br_t ?_|refine br_f ?_|refine za ?_|refine zg ?_)|rw [hal]|refine zp ?_|refine zq ?_|(with_reducible first|refine bc (fun h => ?_) (fun h => ?_)|refine zt ?_|refine zf ?_|refine br_i (fun h => ?_) (fun h => ?_))|refine zg ?_|refine zi ?_|refine zb ?_)
   all_goals conv=>whnf
   all_goals rfl
  ·rw [if_neg h1]
   refine fn_ok (by kernel_rfl) ty_ok Tryz.func18 rfl (fun _ _=>Tryz.call18 _ _) rfl ?_
   intro hw
   clear hw
   repeat' ((conv=>whnf);first|(with_reducible first|refine br_t ?_|refine br_f ?_|refine za ?_|refine zg ?_)|rw [hal]|refine zp ?_|refine zq ?_|(with_reducible first|refine bc (fun h => ?_) (fun h => ?_)|refine zt ?_|refine zf ?_|refine br_i (fun h => ?_) (fun h => ?_))|refine zg ?_|refine zi ?_|refine zb ?_)
   all_goals conv=>whnf
   all_goals rfl
 ·rw [if_neg h]
  generalize lchk x=z at *
  refine fn_ok (by kernel_rfl) ty_ok Tryz.func18 rfl (fun _ _=>Tryz.call18 _ _) rfl ?_
  intro hw
  clear hw
  exact zw
theorem rgAt_fn (x:Lg) (k:Int):FnOK Tryz.prog 7 [x.dc,.one (i64 k)] (.tup [(latV x k).1.dc,.one (i64 (latV x k).2)]):=by
 have H:=rgasked_fn x k
 have hal:(x.al.map Ak.c).length=x.al.length:=List.length_map ..
 unfold latV at H ⊢
 by_cases h:lchk x=0
 ·rw [if_pos h] at H ⊢
  obtain ⟨k1,k2,k3⟩:=lchk_ok h
  by_cases h1:k<0∨(x.al.length:Int)<k
  ·rw [if_pos h1] at H ⊢
   refine fn_ok (by kernel_rfl) ty_ok Tryz.func7 rfl (fun _ _=>Tryz.call7 _ _) rfl ?_
   intro hw
   clear hw
   repeat' ((conv=>whnf);first|(with_reducible first|refine br_t ?_|refine br_f ?_|refine za ?_|refine zg ?_)|rw [hal]|refine zp ?_|refine zq ?_|(with_reducible first|refine bc (fun h => ?_) (fun h => ?_)|refine zt ?_|refine zf ?_|refine br_i (fun h => ?_) (fun h => ?_))|refine zg ?_|refine zi ?_|refine zb ?_)
   all_goals conv=>whnf
   all_goals rfl
  ·rw [if_neg h1] at H ⊢
   have HR:=rgrun_fn k2 (x.al.take k.toNat) (by rw [List.length_take];omega)
   rw [aks,List.map_take] at HR
   have HR':FnOK Tryz.prog 19 [x.s.dc,.one (.list 7 (((x.al.map Ak.c).take k.toNat).drop (0:Int).toNat))] _:=HR
   generalize (runs x.s (x.al.take k.toNat)).1=y at *
   generalize (runs x.s (x.al.take k.toNat)).2=z at *
   refine fn_ok (by kernel_rfl) ty_ok Tryz.func7 rfl (fun _ _=>Tryz.call7 _ _) rfl ?_
   intro hw
   clear hw
   repeat' ((conv=>whnf);first|(with_reducible first|refine br_t ?_|refine br_f ?_|refine za ?_|refine zg ?_)|rw [hal]|refine zp ?_|refine zq ?_|(with_reducible first|refine bc (fun h => ?_) (fun h => ?_)|refine zt ?_|refine zf ?_|refine br_i (fun h => ?_) (fun h => ?_))|refine zg ?_|refine zi ?_|refine zb ?_)
   all_goals conv=>whnf
   all_goals rfl
 ·rw [if_neg h] at H ⊢
  generalize lchk x=z at *
  refine fn_ok (by kernel_rfl) ty_ok Tryz.func7 rfl (fun _ _=>Tryz.call7 _ _) rfl ?_
  intro hw
  clear hw
  exact zw
end Go.Proofs.YtddbmpbihpkabaaGreat

namespace Go.Proofs.YtddbmpbihpkabaaGreat
open Go Go.RowKit Go.Sort Sx
set_option maxRecDepth 2000
theorem rgCut_fn {x:Lg} (h:lchk x=0) {k:Int} (h1:¬ (k<0∨(x.al.length:Int)<k)):FnOK Tryz.prog 9 [x.dc,.one (i64 k)] (.tup [Lg.dc ⟨x.s,x.al.take k.toNat,(runs x.s (x.al.take k.toNat)).2⟩,Lg.dc ⟨(runs x.s (x.al.take k.toNat)).1,x.al.drop k.toNat,(runs (runs x.s (x.al.take k.toNat)).1 (x.al.drop k.toNat)).2⟩,.one (i64 0)]):=by
 have H:=rgasked_fn x k
 have hal:(x.al.map Ak.c).length=x.al.length:=List.length_map ..
 unfold latV at H
 rw [if_pos h,if_neg h1] at H
 obtain ⟨k1,k2,k3⟩:=lchk_ok h
 have HR:=rgrun_fn k2 (x.al.take k.toNat) (by rw [List.length_take];omega)
 have HA:=rgRecord_fn x.s (x.al.take k.toNat)
 have hy:=runs_ok (x.al.take k.toNat) k2
 have HB:=rgRecord_fn (runs x.s (x.al.take k.toNat)).1 (x.al.drop k.toNat)
 unfold recV at HA HB
 rw [if_pos k2,if_neg (by rw [List.length_take];omega)] at HA
 rw [if_pos hy,if_neg (by rw [List.length_drop];omega)] at HB
 rw [aks,List.map_take] at HR HA
 have HR':FnOK Tryz.prog 19 [x.s.dc,.one (.list 7 (((x.al.map Ak.c).take k.toNat).drop (0:Int).toNat))] _:=HR
 have HA':FnOK Tryz.prog 23 [x.s.dc,.one (.list 7 (((x.al.map Ak.c).take k.toNat).drop (0:Int).toNat))] _:=HA
 have hd:aks (x.al.drop k.toNat)=.list 7 (((x.al.map Ak.c).take ((x.al.length:Nat):Int).toNat).drop k.toNat):=by rw [List.take_of_length_le (by rw [hal];omega),← List.map_drop]
 rw [hd] at HB
 generalize (runs (runs x.s (x.al.take k.toNat)).1 (x.al.drop k.toNat)).2=z2 at *
 generalize (runs x.s (x.al.take k.toNat)).1=y at *
 generalize (runs x.s (x.al.take k.toNat)).2=z at *
 simp only [retG] at HA' HB
 clear HR HA k3 h
 refine fn_ok (by kernel_rfl) ty_ok Tryz.func9 rfl (fun _ _=>Tryz.call9 _ _) rfl ?_
 intro hw
 clear hw
 repeat' ((conv=>whnf);first|(with_reducible first|refine br_t ?_|refine br_f ?_|refine za ?_|refine zg ?_)|rw [hal]|refine zp ?_|refine zq ?_|(with_reducible first|refine bc (fun h => ?_) (fun h => ?_)|refine zt ?_|refine zf ?_|refine br_i (fun h => ?_) (fun h => ?_))|refine zg ?_|refine zi ?_|refine zb ?_)
 all_goals conv=>whnf
 all_goals first|rfl|(simp only [Lg.dc,aks,List.map_take];rfl)
end Go.Proofs.YtddbmpbihpkabaaGreat

namespace Go.Proofs.YtddbmpbihpkabaaGreat
open Go Go.RowKit Go.Sort Sx
set_option maxRecDepth 2000
set_option maxRecDepth 100000 in
set_option maxHeartbeats 8000000 in
theorem gJoin_now {x y:Lg} (h1:lchk x=0) (h2:lchk y=0) (h3:¬ ((runs x.s x.al).1.n=y.s.n∧(runs x.s x.al).1.d=y.s.d)):FnOK Tryz.prog 10 [x.dc,y.dc] (retG (lg0,32)):=by
 have C1:=gCheck_fn x
 have C2:=gCheck_fn y
 rw [h1] at C1
 rw [h2] at C2
 obtain ⟨k1,k2,k3⟩:=lchk_ok h1
 obtain ⟨j1,j2,j3⟩:=lchk_ok h2
 have A:=gAt_fn x ((x.al.length:Nat):Int)
 have hA:latV x ((x.al.length:Nat):Int)=((runs x.s x.al).1,0):=by
  unfold latV
  rw [if_pos h1,if_neg (by omega),Int.toNat_natCast,List.take_length]
 rw [hA] at A
 generalize (runs x.s x.al).1=z at *
 have hal:(x.al.map Ak.c).length=x.al.length:=List.length_map ..
 clear hA h1 h2 k3 j3 k2 j2
 obtain ⟨⟨n,d,l⟩,a,r⟩:=x
 obtain ⟨⟨n',d',l'⟩,a',r'⟩:=y
 obtain ⟨n1,d1,l1⟩:=z
 have h3:¬ (n1=n'∧d1=d'):=h3
 simp only [Lg.dc,Md.dc] at *
 refine fn_ok (by kernel_rfl) ty_ok Tryz.func10 rfl (fun _ _=>Tryz.call10 _ _) rfl ?_
 intro hw
 clear hw
 repeat' ((conv=>whnf);first|(with_reducible first|refine br_t ?_|refine br_f ?_|refine za ?_|refine zg ?_)|refine zp ?_|refine zq ?_|(with_reducible first|refine bc (fun h => ?_) (fun h => ?_)|refine zt ?_|refine zf ?_|refine br_i (fun h => ?_) (fun h => ?_)|refine xi (pv_bool fun _=>nev23 _ _ _ _ _ _ _) ?_)|refine zg ?_|refine zi ?_|refine zb ?_)
 all_goals conv=>whnf
 refine loop_J (by kernel_rfl) ty_ok (σ:=Nat) (fun i=>[(15,sV (.int .i64 i))]) (fun _=>[]) (fun i=>i≤2) (fun i=>2-i) 0 (Nat.zero_le _) ?_ ?_
 ·(conv=>whnf);exact zent
 intro i hi
 have hl2:([[i64 n,i64 d,pts l,aks a,rps r],[i64 n',i64 d',pts l',aks a',rps r']]:List (List D)).length=2:=rfl
 rcases (show i=0∨i=1∨i=2 by omega) with rfl|rfl|rfl
 ·have el:([[i64 n,i64 d,pts l,aks a,rps r],[i64 n',i64 d',pts l',aks a',rps r']]:List (List D))[((0:Nat):Int).toNat]? = some [i64 n,i64 d,pts l,aks a,rps r]:=rfl
  repeat' ((conv=>whnf);first|(with_reducible first|refine br_t ?_|refine br_f ?_|refine za ?_|refine zg ?_)|rw [hl2]|refine zp ?_|refine zq ?_|(with_reducible first|refine bc (fun h => ?_) (fun h => ?_)|refine zt ?_|refine zf ?_|refine br_i (fun h => ?_) (fun h => ?_)|refine xi (pv_bool fun _=>nev23 _ _ _ _ _ _ _) ?_)|refine zg ?_|refine zi ?_|refine zb ?_)
  all_goals conv=>whnf
  refine ⟨1,by omega,?_,by omega⟩
  (conv=>whnf);exact zent
 ·have el:([[i64 n,i64 d,pts l,aks a,rps r],[i64 n',i64 d',pts l',aks a',rps r']]:List (List D))[((1:Nat):Int).toNat]? = some [i64 n',i64 d',pts l',aks a',rps r']:=rfl
  repeat' ((conv=>whnf);first|(with_reducible first|refine br_t ?_|refine br_f ?_|refine za ?_|refine zg ?_)|rw [hl2]|refine zp ?_|refine zq ?_|(with_reducible first|refine bc (fun h => ?_) (fun h => ?_)|refine zt ?_|refine zf ?_|refine br_i (fun h => ?_) (fun h => ?_)|refine xi (pv_bool fun _=>nev23 _ _ _ _ _ _ _) ?_)|refine zg ?_|refine zi ?_|refine zb ?_)
  all_goals conv=>whnf
  refine ⟨2,by omega,?_,by omega⟩
  (conv=>whnf);exact zent
 ·by_cases e1:n1=n'
  ·have e2:d1≠d':=fun e=>h3 ⟨e1,e⟩
   subst e1
   repeat' ((conv=>whnf);first|(with_reducible first|refine br_t ?_|refine br_f ?_|refine za ?_|refine zg ?_)|rw [hl2]|rw [hal]|refine zp ?_|refine zq ?_|(with_reducible first|refine bc (fun h => ?_) (fun h => ?_)|refine zt ?_|refine zf ?_|refine br_i (fun h => ?_) (fun h => ?_)|refine xi (pv_bool fun _=>nev23 _ _ _ _ _ _ _) ?_)|refine zg ?_|refine zi ?_|refine zb ?_)
   all_goals conv=>whnf
   all_goals rfl
  ·repeat' ((conv=>whnf);first|(with_reducible first|refine br_t ?_|refine br_f ?_|refine za ?_|refine zg ?_)|rw [hl2]|rw [hal]|refine zp ?_|refine zq ?_|(with_reducible first|refine bc (fun h => ?_) (fun h => ?_)|refine zt ?_|refine zf ?_|refine br_i (fun h => ?_) (fun h => ?_)|refine xi (pv_bool fun _=>nev23 _ _ _ _ _ _ _) ?_)|refine zg ?_|refine zi ?_|refine zb ?_)
   all_goals conv=>whnf
   all_goals rfl
theorem rgCut_bad {x:Lg} {k:Int} (h:(latV x k).2≠0):FnOK Tryz.prog 9 [x.dc,.one (i64 k)] (retCut (lg0,lg0,(latV x k).2)):=by
 have H:=rgasked_fn x k
 generalize (latV x k).2=z at *
 refine fn_ok (by kernel_rfl) ty_ok Tryz.func9 rfl (fun _ _=>Tryz.call9 _ _) rfl ?_
 intro hw
 clear hw
 exact zw
theorem latV_ok {x:Lg} {k:Int} (h:(latV x k).2=0):lchk x=0∧¬ (k<0∨(x.al.length:Int)<k)∧(latV x k).1=(runs x.s (x.al.take k.toNat)).1:=by
 have h0:lchk x=0:=by
  unfold latV at h
  split at h
  ·assumption
  ·rename_i k;exact absurd h k
 have hn:¬ (k<0∨(x.al.length:Int)<k):=fun k=>by
  unfold latV at h
  rw [if_pos h0,if_pos k] at h
  cases h
 refine ⟨h0,hn,?_⟩
 unfold latV
 rw [if_pos h0,if_neg hn]
theorem rgCut_fnV (x:Lg) (k:Int):FnOK Tryz.prog 9 [x.dc,.one (i64 k)] (retCut (cutV x k)):=by
 unfold cutV
 by_cases h:(latV x k).2=0
 ·rw [if_pos h]
  obtain ⟨h0,hn,e⟩:=latV_ok h
  obtain ⟨k1,k2,k3⟩:=lchk_ok h0
  have H:=rgCut_fn h0 hn
  rw [runs_take,runs_drop,← k3,← e] at H
  exact H
 ·rw [if_neg h]
  exact rgCut_bad h
set_option maxRecDepth 100000 in
theorem rgJoin_fnV (x y:Lg):FnOK Tryz.prog 11 [x.dc,y.dc] (retG (joinV x y)):=by
 have C1:=rgCheck_fn x
 have C2:=rgCheck_fn y
 unfold joinV
 by_cases h1:lchk x=0
 ·rw [if_pos h1]
  rw [h1] at C1
  by_cases h2:lchk y=0
  ·rw [if_pos h2]
   rw [h2] at C2
   obtain ⟨k1,k2,k3⟩:=lchk_ok h1
   obtain ⟨j1,j2,j3⟩:=lchk_ok h2
   have HR:=rgrun_fn k2 x.al (by omega)
   have HS:=roSameModel_fn (runs x.s x.al).1 y.s
   have hlx:(x.al.map Ak.c).length=x.al.length:=List.length_map ..
   have hly:(y.al.map Ak.c).length=y.al.length:=List.length_map ..
   by_cases h3:(runs x.s x.al).1=y.s
   ·rw [if_pos h3]
    rw [decide_eq_true h3] at HS
    have HC:=rgRecord_fn x.s (x.al++y.al)
    have hrec:recV x.s (x.al++y.al)=if 120<x.al.length+y.al.length then (lg0,4) else (⟨x.s,x.al++y.al,x.rs++y.rs⟩,0):=by
     unfold recV
     rw [if_pos k2,List.length_append]
     split
     ·rfl
     ·have:=runs_append x.s x.al y.al
      rw [this]
      dsimp only
      rw [h3,← k3,← j3]
    rw [hrec] at HC
    generalize (if 120<x.al.length+y.al.length then (lg0,(4:Int)) else (⟨x.s,x.al++y.al,x.rs++y.rs⟩,0))=z at *
    have e:aks (x.al++y.al)=.list 7 ([]++x.al.map Ak.c++y.al.map Ak.c):=by unfold aks;rw [List.map_append];rfl
    rw [e] at HC
    generalize (runs x.s x.al).1=u at *
    generalize (runs x.s x.al).2=v at *
    simp only [retG] at HC
    clear hrec k3 j3 e
    refine fn_ok (by kernel_rfl) (ty_okK [41] [] [] []) Tryz.func11 rfl (fun _ _=>Tryz.call11 _ _) rfl ?_
    intro hw
    clear hw
    repeat' ((conv=>whnf);first|(with_reducible first|refine br_t ?_|refine br_f ?_|refine za ?_|refine zg ?_|refine zo ?_)|rw [hlx]|rw [hly]|refine zp ?_|refine zq ?_|(with_reducible first|refine bc (fun h => ?_) (fun h => ?_)|refine zt ?_|refine zf ?_|refine br_i (fun h => ?_) (fun h => ?_))|refine zg ?_|refine zi ?_|refine zb ?_|refine zl ?_)
    all_goals conv=>whnf
    all_goals rfl
   ·rw [if_neg h3]
    rw [decide_eq_false h3] at HS
    generalize (runs x.s x.al).1=u at *
    generalize (runs x.s x.al).2=v at *
    clear k3 j3 h3
    refine fn_ok (by kernel_rfl) ty_ok Tryz.func11 rfl (fun _ _=>Tryz.call11 _ _) rfl ?_
    intro hw
    clear hw
    exact zw
  ·rw [if_neg h2]
   generalize lchk y=z at *
   refine fn_ok (by kernel_rfl) ty_ok Tryz.func11 rfl (fun _ _=>Tryz.call11 _ _) rfl ?_
   intro hw
   clear hw
   exact zw
 ·rw [if_neg h1]
  generalize lchk x=z at *
  refine fn_ok (by kernel_rfl) ty_ok Tryz.func11 rfl (fun _ _=>Tryz.call11 _ _) rfl ?_
  intro hw
  clear hw
  exact zw
end Go.Proofs.YtddbmpbihpkabaaGreat

namespace Go.Proofs.YtddbmpbihpkabaaGreat
open Go Go.RowKit Go.Sort Sx
section
variable {C:World→Prop}
theorem wk_none {u:Bool} {n:Nat→Prop} {k:Nat}:Wk C (.list k []) (.hue u n (.list k [])):=fun w _ M v h=>by
 generalize hd:D.list k []=d at h
 cases h with
 | nil k' x c hm hx=>injection hd with e1 e2;subst e1;exact .hue _ _ (.nil _ _ _ hm hx)
 | v x h hw=>cases hd
 | nl k=>cases hd
 | em k x c hm=>cases hd
 | ref vs hM hb hv hr=>cases hd
 | clo ps hr=>cases hd
 | hue u n h=>cases hd
 | @list b off cap k' l vs hc hm hM hb hk hv hr=>injection hd with e1 e2;subst e1 e2;exact .hue _ _ (.nil _ _ _ hm fun e=>by cases e)
theorem wk_lg0 {n:Nat→Prop}:WkC C lg0.dc (lg0.hu false n):=⟨.refl _,.refl _,wk_none,wk_none,wk_none,trivial⟩
theorem wk_md0 {n:Nat→Prop}:WkC C md0.dc (md0.hu false n):=⟨.refl _,.refl _,wk_none,trivial⟩
theorem wk_lgF {n:Nat→Prop} (x:Lg):WkC C (x.hu true n) (x.hu false n):=⟨.refl _,.refl _,wk_false,wk_false,wk_false,trivial⟩
end
theorem gAt_hueV (n:Nat→Prop) (x:Lg) (k:Int):FnOK Tryz.prog 6 [x.ev n,.one (i64 k)] (.tup [(latV x k).1.hu false n,.one (i64 (latV x k).2)]):=by
 by_cases h:(latV x k).2=0
 ·obtain ⟨h0,hn,_⟩:=latV_ok h
  rw [h]
  exact gAt_hue n h0 hn
 ·have e:(latV x k).1=md0:=by
   unfold latV at h ⊢
   repeat' split
   ·rfl
   ·rename_i h0 h1;rw [if_pos h0,if_neg h1] at h;exact absurd rfl h
   ·rfl
  have H:=ok_wk (gAt_fn x k) (args':=[x.ev n,.one (i64 k)]) ⟨wk_lg x,.refl _,trivial⟩
  rw [e] at H ⊢
  exact ok_wkR H ⟨wk_md0,.refl _,trivial⟩
theorem gCut_hueV (n:Nat→Prop) (x:Lg) (k:Int):FnOK Tryz.prog 8 [x.ev n,.one (i64 k)] (.tup [(cutV x k).1.hu false n,(cutV x k).2.1.hu false n,.one (i64 (cutV x k).2.2)]):=by
 by_cases h:(latV x k).2=0
 ·obtain ⟨h0,hn,_⟩:=latV_ok h
  unfold cutV
  rw [if_pos h]
  exact gCut_hue n h0 hn
 ·have H:=ok_wk (gCut_fn x k) (args':=[x.ev n,.one (i64 k)]) ⟨wk_lg x,.refl _,trivial⟩
  unfold cutV at H ⊢
  rw [if_neg h] at H ⊢
  exact ok_wkR H ⟨wk_lg0,wk_lg0,.refl _,trivial⟩
theorem md_ext {u v:Md} (h1:u.n=v.n) (h2:u.d=v.d) (h3:u.l=v.l):u=v:=by
 cases u;cases v;simp only at h1 h2 h3;rw [h1,h2,h3]
theorem gJoin_hueV (n:Nat→Prop) (x y:Lg):FnOK Tryz.prog 10 [x.ev n,y.ev n] (.tup [(joinV x y).1.hu false n,.one (i64 (joinV x y).2)]):=by
 have bad:∀ z:Int,FnOK Tryz.prog 10 [x.dc,y.dc] (retG (lg0,z))→FnOK Tryz.prog 10 [x.ev n,y.ev n] (.tup [lg0.hu false n,.one (i64 z)]):=fun z H =>
  ok_wkR (ok_wk H (args':=[x.ev n,y.ev n]) ⟨wk_lg x,wk_lg y,trivial⟩) ⟨wk_lg0,.refl _,trivial⟩
 unfold joinV
 by_cases h1:lchk x=0
 ·rw [if_pos h1]
  by_cases h2:lchk y=0
  ·rw [if_pos h2]
   by_cases h3:(runs x.s x.al).1=y.s
   ·rw [if_pos h3]
    by_cases h4:120<x.al.length+y.al.length
    ·rw [if_pos h4]
     exact bad _ (gJoin_many h1 h2 h3 h4)
    ·rw [if_neg h4]
     exact ok_wkR (gJoin_hue n h1 h2 h3 (by omega)) ⟨wk_lgF _,.refl _,trivial⟩
   ·rw [if_neg h3]
    by_cases h5:(runs x.s x.al).1.n=y.s.n∧(runs x.s x.al).1.d=y.s.d
    ·refine bad _ (gJoin_order (f:=(runs x.s x.al).1.l) h1 h2 ?_ fun e=>h3 ?_)
     ·rw [← h5.1,← h5.2]
     ·exact md_ext h5.1 h5.2 e
    ·exact bad _ (gJoin_now h1 h2 h5)
  ·rw [if_neg h2]
   exact bad _ (gJoin_bad2 h1 h2)
 ·rw [if_neg h1]
  exact bad _ (gJoin_bad1 h1)
theorem rgTwin_hue (n:Nat→Prop) (x:Lg) (h1:x.s.l.length≤1000000) (h2:x.al.length≤1000000) (h3:x.rs.length≤1000000) (h4:∀ r∈x.rs,r.ms.length≤1000000):FnOK Tryz.prog 5 [x.ev n] (.c (x.hu true n)):=by
 refine hue_of_ownA (g:=Rp.c) (rgTwin_ownE n x h1 h2 h3 h4) (fun w M vs hvs hne => ?_) fun w M hn a _=>⟨hs_ev,hs_v hn,hs_v hn,hs_v hn,hs_v hn,hs_hue,trivial⟩
 match vs,hvs with
 | [v],⟨⟨xs,_,hx⟩,_⟩ =>
  match xs,hx with
  | [_,_,_,_,_],⟨_,_,_,_,a5,_⟩=>exact rep_evL (fun a=>⟨_,_,rfl⟩) a5 hne
end Go.Proofs.YtddbmpbihpkabaaGreat

namespace Go.Proofs.YtddbmpbihpkabaaGreat
open Go Go.RowKit
namespace Sx
section
variable {P:Program} {C M0 M:Nat→Prop} {w0 w:World} {sz:Nat} {ρ:Nat→Nm} {E:Env} {H:Hp} {a:Act} {Γ:Cfg}
def RelS (sz:Nat) (M:Nat→Prop) (E:Env) (a:Act) (w:World):Prop:=Rel (fun b=>b=w.heap.size) M w sz (fun _=>default) E [] a w
theorem mof_nil {b:Nat}:Mof M ρ [] b↔M b:=by
 constructor
 ·rintro (h|⟨n,x,h,_⟩)
  ·exact h
  ·simp [look] at h
 ·exact .inl
theorem SVR.ren0 {ρ':Nat→Nm} {x:SV} {v:Value} (hn:x.names=[]) (h:SVR ρ w M x v):SVR ρ' w M x v:=SVR.rename (fun n hx=>by rw [hn] at hx;cases hx) h
theorem relS_mk (hd:a.defers=[]) (hs:a.tmps.size=sz) (hM:Lo w M) (hE:∀ t x,look E t=some x→SVR (fun _=>default) w M x (a.tmps.getD t undef)∧x.names=[]):RelS sz M E a w:=by
 refine ⟨.refl _ _ _,⟨hM.lt,hM.gd,hM.ge,fun b h => ?_⟩,fun t x h=>(hE t x h).1.mono (.refl _ w) fun b _ h=>mof_nil.1 h,fun n b h=>by simp [look] at h,fun n b h=>by simp [look] at h,fun n b h=>by simp [look] at h,fun n n' b b' h=>by simp [look] at h,hd,hs,fun n b h => ?_,fun t x h n hn => ?_,fun n b h=>by simp [look] at h⟩
 ·have:=gd_size hM.gd;omega
 ·obtain ⟨x,h1,h2⟩:=h.gt;omega
 ·rw [(hE t x h).2] at hn;cases hn
theorem relS_get (R:RelS sz M E a w) {t:Nat} {x:SV} (h:look E t=some x):SVR (fun _=>default) w M x (a.tmps.getD t undef)∧x.names=[] :=
 ⟨(R.env t x h).mono (.refl _ w) fun b _ h=>mof_nil.2 h,List.eq_nil_iff_forall_not_mem.2 fun n hn=>by have:=R.clE t x h n hn;simp [look] at this⟩
theorem relS_lo (R:RelS sz M E a w):Lo w M:=⟨R.out.lt,R.out.gd,R.out.ge⟩
def frgS (H:Hp):SV→Option SV
 | .c (.at (.d x))=>some (.c (.at (.d x)))
 | .c (.at (.ep k l i o))=>some (.c (.at (.ep k l i o)))
 | .c (.at (.ptr n o))=>match look H n with
  | some (.own cells)=>match allD cells with|some ds=>some (.c (.at (.ep ds.length [ds] 0 o)))|none=>none
  | _=>none
 | .c (.agg l)=>match allD l with|some ds=>some (.c (.agg (ds.map .d)))|none=>none
 | _=>none
def frgE (H:Hp) (E:Env):List Nat→Option Env
 | []=>some []
 | t::ts=>match look E t,frgE H E ts with
  | some x,some r=>match frgS H x with|some y=>some ((t,y)::r)|none=>none
  | _,_=>none
theorem allD_eq:∀ {l:List At} {r:List D},allD l=some r→l=r.map .d
 | [],r,h=>by injection h with h;subst h;rfl
 | .d x::l,r,h=>by
  unfold allD at h
  split at h
  ·rename_i r' hr
   injection h with h
   subst h
   rw [allD_eq hr];rfl
  ·cases h
 | .ptr ..::_,_,h|.osl ..::_,_,h|.rp ..::_,_,h|.ep ..::_,_,h|.fn ..::_,_,h|.ifp ..::_,_,h|.asl ..::_,_,h|.zsl ..::_,_,h=>by cases h
theorem row_of_cells {b:Nat} {ds:List D} {us:List Value} (h:CellsAt w b us) (hD:DsR w M ds us) (hb:b<w.heap.size) (hM:¬ M b):RowAt w M b 0 ds.length [ds]:=by
 have hlen:=hD.length
 refine ⟨1,.list (fun _ j=>us[j]?.getD undef) (Nat.le_refl 1) (by decide) hM hb (fun x hx=>by rw [List.mem_singleton.1 hx]) (fun i j hi hj => ?_) fun i j hi hj => ?_⟩
 ·have:i=0:=by simp at hi;omega
  subst this
  simp only [cell_of h,Nat.zero_mul,Nat.zero_add]
  rw [List.getElem?_eq_getElem (by omega)];rfl
 ·have:i=0:=by simp at hi;omega
  subst this
  have hj':j<ds.length:=hj
  obtain ⟨u,h1,h2⟩:=AtsR.get (ρ:=fun _=>default) (DsR.ats.1 hD) j (.d ds[j]) (by simp [hj'])
  simp only [h1,Option.getD_some]
  exact h2
theorem frgS_rel (R:Rel C M0 w0 sz ρ E H a w) (hC:∀ b,C b→w0.heap.size≤b) {x y:SV} {v:Value} (h:frgS H x=some y) (hx:SVR ρ w (Mof M0 ρ H) x v):SVR (fun _=>default) w M0 y v∧y.names=[]:=by
 have hM:∀ b,b<w.heap.size→M0 b→Mof M0 ρ H b:=fun b _ h=>.inl h
 unfold frgS at h
 split at h
 ·injection h with h;subst h
  exact ⟨SVR.ren0 rfl (hx.mono (.refl _ w) hM),rfl⟩
 ·injection h with h;subst h
  exact ⟨SVR.ren0 rfl (hx.mono (.refl _ w) hM),rfl⟩
 ·rename_i n o
  split at h
  ·rename_i cells hc
   split at h
   ·rename_i ds hd
    injection h with h;subst h
    obtain ⟨_,hk⟩:=R.blk n _ hc
    obtain ⟨us,h1,h2⟩:=hk rfl
    have h2:AtsR ρ w (Mof M0 ρ H) cells us:=h2
    rw [allD_eq hd] at h2
    have h3:DsR w (Mof M0 ρ H) ds us:=DsR.ats.2 h2
    have hb:=R.hi n _ hc rfl
    have hnM:¬ M0 (ρ n).b:=fun h=>by
     have h4:=R.out.lt _ h
     rcases R.lo n _ hc rfl with h5|h5
     ·omega
     ·have:=hC _ h5.1;omega
    have hv:v=.pointer (some ⟨(ρ n).b,o,none⟩):=hx.2
    refine ⟨⟨(ρ n).b,0,?_,row_of_cells h1 (h3.mono (.refl _ w) hM) hb hnM⟩,rfl⟩
    simp only [hv,Nat.zero_mul,Nat.zero_add]
   ·cases h
  ·cases h
 ·rename_i l
  split at h
  ·rename_i ds hd
   injection h with h;subst h
   rw [allD_eq hd] at hx
   obtain ⟨vs,e,hx⟩:=hx
   have hn:SV.names (.c (.agg (ds.map .d)))=[]:=names_map_d ds
   refine ⟨⟨vs,e,?_⟩,hn⟩
   exact DsR.ats.1 (DsR.mono (.refl _ w) hM (DsR.ats.2 hx))
  ·cases h
 ·cases h
theorem frgE_look {H:Hp} {E:Env}:∀ {ks:List Nat} {E1:Env},frgE H E ks=some E1→∀ t y,look E1 t=some y→∃ x,look E t=some x∧frgS H x=some y
 | [],E1,h,t,y,hy=>by injection h with h;subst h;simp [look] at hy
 | k::ks,E1,h,t,y,hy=>by
  unfold frgE at h
  split at h
  ·rename_i x r hx hr
   split at h
   ·rename_i z hz
    injection h with h;subst h
    rw [look_cons] at hy
    split at hy
    ·rename_i e;subst e
     injection hy with hy;subst hy
     exact ⟨x,hx,hz⟩
    ·exact frgE_look hr t y hy
   ·cases h
  ·cases h
theorem frg_rel (R:Rel C M0 w0 sz ρ E H a w) (hC:∀ b,C b→w0.heap.size≤b) {ks:List Nat} {E1:Env} (h:frgE H E ks=some E1):RelS sz M0 E1 a w:=by
 have hlo:=R.mlo
 refine relS_mk R.defers R.size ⟨fun b hb=>hlo.lt b (.inl hb),hlo.gd,fun b hb=>hlo.ge b (.inl hb)⟩ fun t y hy => ?_
 obtain ⟨x,hx,hz⟩:=frgE_look h t y hy
 exact frgS_rel R hC hz (R.env t x hx)
def seqs:List Code→Code→Code
 | [],r=>r
 | c::l,r=>.seq c (seqs l r)
noncomputable def codes (P:Program) (Γ:Cfg) (sz:Nat):List Code→Env→Hp→KP→Prop
 | [],E,H,k=>k .normal E H
 | c::l,E,H,k=>code P Γ sz c E H fun ex E H=>match ex with
  | .normal=>codes P Γ sz l E H k
  | ex=>k ex E H
theorem codes_sound (hm:P.follows .mixedOrders=true) (hΓ:ΓOK P Γ) (hdm:Γ.dm=false→C w0.heap.size) {r:Code}:∀ (l:List Code) (E:Env) (H:Hp) (k:KP),codes P Γ sz l E H k →
  ∀ (ρ:Nat→Nm) (a:Act) (w:World) (Q:Exit→Act→World→Prop),Rel C M0 w0 sz ρ E H a w→(∀ ex E' H' ρ' a' w',k ex E' H'→Rel C M0 w0 sz ρ' E' H' a' w'→match ex with|.normal=>r.wp P Q a' w'|ex=>Q ex a' w')→(seqs l r).wp P Q a w
 | [],E,H,k,h,ρ,a,w,Q,R,hQ=>hQ .normal _ _ _ _ _ h R
 | c::l,E,H,k,h,ρ,a,w,Q,R,hQ=>by
  refine wp_seq (code_sound hm hΓ hdm c E H _ h ρ a w _ R fun ex E' H' ρ' a' w' hk R' => ?_)
  cases ex<;>first
  | exact codes_sound hm hΓ hdm l _ _ _ hk ρ' a' w' Q R' hQ
  | exact hQ _ _ _ _ _ _ hk R'
theorem regS_part (hΓ:ΓOK P Γ) (hdm:Γ.dm=false→C w0.heap.size) {all:List Oper} {k:Env→Hp→Prop} {Q:Exit→Act→World→Prop} {rest:List Nat} (hQ:∀ E H ρ a w,k E H→Rel C M0 w0 sz ρ E H a w→wpOps P all.toArray Q rest a w) :
  ∀ (l:List Oper) (i:Nat) (E:Env) (H:Hp) (ρ:Nat→Nm) (a:Act) (w:World),(∀ j o,l[j]? = some o→all[i+j]? = some o)→Rel C M0 w0 sz ρ E H a w→regS P Γ sz all l E H k→wpOps P all.toArray Q (List.range' i l.length++rest) a w
 | [],i,E,H,ρ,a,w,hl,R,h=>hQ E H ρ a w h R
 | o::r,i,E,H,ρ,a,w,hl,R,h=>by
  have h0:all[i]? = some o:=hl 0 o rfl
  rw [List.length_cons,List.range'_succ,List.cons_append,wpOps_cons]
  rw [regS_cons] at h
  have rec':∀ x,regS P Γ sz all r (apE o.dst x E) (apH x H) k→∀ ρ' a' w',Rel C M0 w0 sz ρ' (apE o.dst x E) (apH x H) a' w'→wpOps P all.toArray Q (List.range' (i+1) r.length++rest) a' w':=fun x hx ρ' a' w' R' =>
   regS_part hΓ hdm hQ r (i+1) _ _ ρ' a' w' (fun j o' hj=>by have:=hl (j+1) o' (by simpa using hj);simpa [Nat.add_assoc,Nat.add_comm 1 j] using this) R' hx
  rcases GV.run_val h with ⟨hg,h⟩|⟨hg,h⟩
  ·unfold stepXF at h
   split at h
   ·rename_i r' hr'
    unfold wpOp
    have hi':all.toArray[i]? = some o:=by simpa using h0
    simp only [hi']
    rw [gv_wanted R hg,if_pos rfl]
    exact .inl (stepX_sound hΓ hdm R hr' h (fun x hk ρ' v w' R'=>by
     rw [frcE_iff,ap2_iff] at hk
     exact rec' x hk ρ' _ w' R'))
   ·obtain ⟨x,hx,hk⟩:=SR.run_has h
    rw [frcE_iff,ap2_iff] at hk
    exact opAt_sound hΓ hdm R (.inl ⟨hg,hx⟩) h0 (rec' x hk)
  ·split at h
   ·rename_i hd
    rw [ap2_iff] at h
    exact opAt_sound hΓ hdm R (.inr ⟨hg,hd,rfl⟩) h0 (rec' skipE h)
   ·exact h.elim
theorem reg_cut (hΓ:ΓOK P Γ) (hdm:Γ.dm=false→C w0.heap.size) {all l1 l2:List Oper} {o:Oper} {i:Nat} {k:Env→Hp→Prop} {Q:Exit→Act→World→Prop} (R:Rel C M0 w0 sz ρ E H a w) (hl:∀ j o',(l1++o::l2)[j]? = some o'→all[i+j]? = some o') (h:regS P Γ sz all l1 E H k) (hg:o.guard=none)
  (hQ:∀ E' H' ρ' a' w',k E' H'→Rel C M0 w0 sz ρ' E' H' a' w'→o.wp P a' w' (wpOps P all.toArray Q (List.range' (i+l1.length+1) l2.length)) Q):wpOps P all.toArray Q (List.range' i (l1++o::l2).length) a w:=by
 have e:List.range' i (l1++o::l2).length=List.range' i l1.length++(i+l1.length)::List.range' (i+l1.length+1) l2.length:=by
  rw [List.length_append,List.length_cons,← List.range'_append_1,List.range'_succ]
 rw [e]
 refine regS_part hΓ hdm (fun E' H' ρ' a' w' hk R' => ?_) l1 i E H ρ a w (fun j o' hj=>hl j o' (by rw [List.getElem?_append_left (List.getElem?_eq_some_iff.1 hj).1];exact hj)) R h
 rw [wpOps_cons]
 unfold wpOp
 have h0:all.toArray[i+l1.length]? = some o:=by
  have:=hl l1.length o (by simp)
  simpa using this
 simp only [h0]
 have hw:Region.wanted o (yielded all.toArray a'.tmps)=true:=by unfold Region.wanted;rw [hg]
 rw [if_pos hw]
 exact .inl (hQ E' H' ρ' a' w' hk R')
theorem reg_rest (hΓ:ΓOK P Γ) (hdm:Γ.dm=false→C w0.heap.size) {all l:List Oper} {i:Nat} {k:Env→Hp→Prop} {Q:Exit→Act→World→Prop} (R:Rel C M0 w0 sz ρ E H a w) (hl:∀ j o',l[j]? = some o'→all[i+j]? = some o') (h:regS P Γ sz all l E H k)
  (hQ:∀ E' H' ρ' a' w',k E' H'→Rel C M0 w0 sz ρ' E' H' a' w'→Q .normal a' w'):wpOps P all.toArray Q (List.range' i l.length) a w:=by
 have:=regS_part (Q:=Q) (rest:=[]) hΓ hdm (fun E H ρ a w hk R=>hQ E H ρ a w hk R) l i E H ρ a w hl R h
 simpa using this
theorem reg_ops {id:Nat} {all:List Oper} {Q:Exit→Act→World→Prop} (h:wpOps P all.toArray Q (List.range' 0 all.length) a w):(Code.region id all.toArray false).wp P Q a w:=by
 refine wp_region ?_
 simpa [List.range_eq_range'] using h
theorem wp_call {o:Oper} {c:Call} {f:Nat} {fo:Operand} {K:Act→World→Prop} {Q:Exit→Act→World→Prop} (ho:o.op=.call c) (hc:c.callee=.value fo) (hfv:a.eval fo=.func (.func f) #[] ([]:List Value).toArray) {vs:List Value} (hvs:c.args.toList.map a.eval=vs) {M':Nat→Prop} {args:List DC} {r:DV}
  (hM:Lo w M') (ha:DCsR w M' args vs) (hr:FnOK P f args r) (hn:∀ v w',DVR w' M' r v→Below w.heap.size w w'→K (a.put o.dst v) w'):o.wp P a w K Q:=by
 unfold Oper.wp
 rw [exec_call ho hc hfv,List.append_nil,hvs]
 rcases hr w M' vs hM ha with ⟨g,hg,hr⟩|⟨v,hg,hv⟩
 ·rw [hg,Oper.upon_enter]
  refine hr.mono ?_
  rintro e w' ⟨v,rfl,hv,hb⟩
  exact hn v w' hv hb
 ·rw [hg,Oper.upon_value]
  exact hn v w hv (Below.refl _ _)
theorem Rel.called (R:Rel C M0 w0 sz ρ E H a w) (hdr:C w0.heap.size) {w':World} (hb:Below w.heap.size w w') {d:Nat} (hd:d<sz) {x:SV} {v:Value} (hx:SVR ρ w' (Mof M0 ρ H) x v) (hn:x.names=[]):Rel C M0 w0 sz ρ ((d,x)::E) H (a.put (some d) v) w' :=
 (R.grow hb (.inl hdr)).val (dst:=some d) (x:=x) (fun d' h=>by injection h with h;omega) hx fun n h=>by rw [hn] at h;cases h
end
end Sx
end Go.Proofs.YtddbmpbihpkabaaGreat
