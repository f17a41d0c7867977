import Derived.Test.YtddbmpbihpkabaaGreatGLGPartsAW
import Derived.Test.YtddbmpbihpkabaaGreatGLGPartsAS
import Derived.Test.YtddbmpbihpkabaaGreatGLGPartsAR
import Derived.Test.YtddbmpbihpkabaaGreatGLGPartsAK
import Derived.Test.YtddbmpbihpkabaaGreatGLGPartsAT
import Derived.Lib.AppendZeros
set_option linter.all false
namespace Go.Proofs.YtddbmpbihpkabaaGreat
open Go Go.RowKit Go.Sort Sx
set_option maxRecDepth 2000
def chgF (m:Md) (a:Ak):List Pt × Int:=if a.k=1 then putV m.l a.p else if a.k=2 then takeV m.l a.id else changeV m.l a.p
theorem rochanged_fn {m:Md} (hl:m.l.length≤1000000) (a:Ak):FnOK Tryz.prog 65 [m.dc,a.dc] (.tup [Md.dc (if (chgF m a).2=0 then ⟨m.n,m.d,(chgF m a).1⟩ else m),.one (i64 (chgF m a).2)]):=by
 have HT:=roTwin_fn m hl
 unfold chgF
 by_cases c1:a.k=1
 ·rw [if_pos c1]
  have H:=rfPut_fn m.l a.p
  generalize putV m.l a.p=x at *
  obtain ⟨f,e⟩:=x
  simp only [retFl] at H
  dsimp only
  by_cases h0:e=0
  ·rw [if_pos h0]
   subst h0
   refine fn_ok (by kernel_rfl) ty_ok Tryz.func65 rfl (fun _ _=>Tryz.call65 _ _) rfl ?_
   intro hw
   clear hw
   exact zw
  ·rw [if_neg h0]
   refine fn_ok (by kernel_rfl) ty_ok Tryz.func65 rfl (fun _ _=>Tryz.call65 _ _) rfl ?_
   intro hw
   clear hw
   exact zw
 ·rw [if_neg c1]
  by_cases c2:a.k=2
  ·rw [if_pos c2]
   have H:=rfTake_fn m.l a.id
   generalize takeV m.l a.id=x at *
   obtain ⟨f,e⟩:=x
   simp only [retFl] at H
   dsimp only
   by_cases h0:e=0
   ·rw [if_pos h0]
    subst h0
    refine fn_ok (by kernel_rfl) ty_ok Tryz.func65 rfl (fun _ _=>Tryz.call65 _ _) rfl ?_
    intro hw
    clear hw
    exact zw
   ·rw [if_neg h0]
    refine fn_ok (by kernel_rfl) ty_ok Tryz.func65 rfl (fun _ _=>Tryz.call65 _ _) rfl ?_
    intro hw
    clear hw
    exact zw
  ·rw [if_neg c2]
   have H:=rfChange_fn m.l a.p
   generalize changeV m.l a.p=x at *
   obtain ⟨f,e⟩:=x
   simp only [retFl] at H
   dsimp only
   by_cases h0:e=0
   ·rw [if_pos h0]
    subst h0
    refine fn_ok (by kernel_rfl) ty_ok Tryz.func65 rfl (fun _ _=>Tryz.call65 _ _) rfl ?_
    intro hw
    clear hw
    exact zw
   ·rw [if_neg h0]
    refine fn_ok (by kernel_rfl) ty_ok Tryz.func65 rfl (fun _ _=>Tryz.call65 _ _) rfl ?_
    intro hw
    clear hw
    exact zw
def movV (m:Md) (a:Ak):Md × Rp:=if askd a.n a.d=0 then (if a.n*m.d≤m.n*a.d then (m,rpE 44) else (⟨a.n,a.d,m.l⟩,⟨0,0,0,0,0,btw (allM m.l) m.n m.d a.n a.d⟩)) else (m,rpE (askd a.n a.d))
theorem romoved_fn {m:Md} (hm:mchk m=0) (a:Ak):FnOK Tryz.prog 60 [m.dc,a.dc] (retA (movV m a)):=by
 obtain ⟨g1,g2⟩:=mchk_ok hm
 obtain ⟨k1,k2,k3⟩:=fchk_ok g2
 obtain ⟨t1,_,_,_,_⟩:=askd_ok g1
 have HT:=roTwin_fn m (by omega)
 have H1:=rasked_fn a.n a.d
 unfold movV
 by_cases h1:askd a.n a.d=0
 ·rw [if_pos h1]
  rw [h1] at H1
  have t2:=(askd_ok h1).1
  have H2:=rcompare_fn a.n a.d m.n m.d
  by_cases h2:a.n*m.d≤m.n*a.d
  ·rw [if_pos h2]
   have h3:cmpN (a.n*m.d) (m.n*a.d)≤0:=by unfold cmpN;(repeat' split)<;>omega
   generalize cmpN (a.n*m.d) (m.n*a.d)=z at *
   refine fn_ok (by kernel_rfl) ty_ok Tryz.func60 rfl (fun _ _=>Tryz.call60 _ _) rfl ?_
   intro hw
   clear hw
   exact zw
  ·rw [if_neg h2]
   have h3:¬ cmpN (a.n*m.d) (m.n*a.d)≤0:=by unfold cmpN;(repeat' split)<;>omega
   have H3:=rmBetween_fn g2 t1 t2 (by omega)
   generalize btw (allM m.l) m.n m.d a.n a.d=L at *
   generalize cmpN (a.n*m.d) (m.n*a.d)=z at *
   refine fn_ok (by kernel_rfl) ty_ok Tryz.func60 rfl (fun _ _=>Tryz.call60 _ _) rfl ?_
   intro hw
   clear hw
   exact zw
 ·rw [if_neg h1]
  generalize askd a.n a.d=z at *
  refine fn_ok (by kernel_rfl) ty_ok Tryz.func60 rfl (fun _ _=>Tryz.call60 _ _) rfl ?_
  intro hw
  clear hw
  exact zw
theorem roDid_fn {m:Md} (hm:mchk m=0) (a:Ak):FnOK Tryz.prog 36 [m.dc,a.dc] (retA (askV m a)):=by
 obtain ⟨g1,g2⟩:=mchk_ok hm
 obtain ⟨k1,k2,k3⟩:=fchk_ok g2
 obtain ⟨t1,_,_,_,_⟩:=askd_ok g1
 have HT:=roTwin_fn m (by omega)
 have H0:=roFormed_fn a
 have hk:formV a=true→a.k=1∨a.k=2∨a.k=3∨a.k=4∨a.k=5∨a.k=6:=fun h=>by
  unfold formV at h
  have:=of_decide_eq_true h
  omega
 cases hf:formV a
 ·rw [hf] at H0
  unfold askV
  rw [hf,if_neg (by decide)]
  refine fn_ok (by kernel_rfl) ty_ok Tryz.func36 rfl (fun _ _=>Tryz.call36 _ _) rfl ?_
  intro hw
  clear hw
  exact zw
 rw [hf] at H0
 have hk:=hk hf
 by_cases h4:a.k=4
 ·have H1:=romoved_fn hm a
  have e:askV m a=movV m a:=by
   unfold askV movV
   rw [hf,if_pos rfl,if_neg (by omega),if_neg (by omega),if_neg (by omega),if_pos h4]
  rw [e]
  generalize movV m a=x at *
  simp only [retA] at H1
  refine fn_ok (by kernel_rfl) ty_ok Tryz.func36 rfl (fun _ _=>Tryz.call36 _ _) rfl ?_
  intro hw
  clear hw
  exact zw
 by_cases h5:a.k=5
 ·unfold askV
  rw [hf,if_pos rfl,if_neg (by omega),if_neg (by omega),if_neg (by omega),if_neg (by omega),if_pos h5]
  have H1:=rfOrdered_fn (n:=m.n) (m:=m.d) k2 k3 (by omega)
  by_cases h1:m.l.length=0
  ·rw [if_pos h1]
   refine fn_ok (by kernel_rfl) ty_ok Tryz.func36 rfl (fun _ _=>Tryz.call36 _ _) rfl ?_
   intro hw
   clear hw
   repeat' ((conv=>whnf);first|(with_reducible first|refine br_t ?_|refine br_f ?_|refine za ?_|refine zg ?_)|rw [List.length_map]|refine zp ?_|refine zq ?_|(with_reducible first|refine bc (fun h => ?_) (fun h => ?_)|refine zt ?_|refine zf ?_|refine br_i (fun h => ?_) (fun h => ?_))|refine zg ?_|refine zi ?_|refine zb ?_)
   all_goals conv=>whnf
   all_goals rfl
  ·rw [if_neg h1]
   have hmem:=ldP_mem (n:=m.n) (m:=m.d) h1
   obtain ⟨p1,p2⟩:=pos_mem k3 hmem
   have hps:=(has_pos k3).1 p1
   obtain ⟨hlt,_⟩:=hps
   have H2:=rfAt_fn m.l (ldP m.l m.n m.d).id
   rw [at1_has k3,p1,if_pos rfl] at H2
   have hel:=pts_get hlt
   rw [List.getElem?_eq_getElem hlt] at p2
   have p2:m.l[pos m.l (ldP m.l m.n m.d).id]=ldP m.l m.n m.d:=p2
   rw [p2] at hel
   have H3:=roPlace_fn (k2 _ hmem) g1
   have ho:((ordV m.l m.n m.d).map fun i=>[i64 i])[(0:Int).toNat]? = some [i64 (ldP m.l m.n m.d).id]:=by
    have h0:0<(srt m.n m.d m.l).length:=by rw [srt_len];omega
    unfold ordV ldP
    rw [List.map_map,Int.toNat_zero,List.getElem?_map,List.getElem?_eq_getElem h0]
    rfl
   have hol:((ordV m.l m.n m.d).map fun i=>[i64 i]).length=m.l.length:=by unfold ordV;simp [srt_len]
   generalize ordV m.l m.n m.d=O at *
   generalize pos m.l (ldP m.l m.n m.d).id=q at *
   generalize ldP m.l m.n m.d=p at *
   refine fn_ok (by kernel_rfl) ty_ok Tryz.func36 rfl (fun _ _=>Tryz.call36 _ _) rfl ?_
   intro hw
   clear hw
   repeat' ((conv=>whnf);first|(with_reducible first|refine br_t ?_|refine br_f ?_|refine za ?_|refine zg ?_)|rw [hol]|rw [List.length_map]|refine zp ?_|refine zq ?_|(with_reducible first|refine bc (fun h => ?_) (fun h => ?_)|refine zt ?_|refine zf ?_|refine br_i (fun h => ?_) (fun h => ?_))|refine zg ?_|refine zi ?_|refine zb ?_)
   all_goals conv=>whnf
   all_goals rfl
 by_cases h6:a.k=6
 ·unfold askV
  rw [hf,if_pos rfl,if_neg (by omega),if_neg (by omega),if_neg (by omega),if_neg (by omega),if_neg (by omega)]
  unfold closV
  rw [if_pos g2,if_pos g1]
  by_cases h2:m.l.length<2
  ·rw [if_pos h2]
   refine fn_ok (by kernel_rfl) ty_ok Tryz.func36 rfl (fun _ _=>Tryz.call36 _ _) rfl ?_
   intro hw
   clear hw
   repeat' ((conv=>whnf);first|(with_reducible first|refine br_t ?_|refine br_f ?_|refine za ?_|refine zg ?_)|rw [List.length_map]|refine zp ?_|refine zq ?_|(with_reducible first|refine bc (fun h => ?_) (fun h => ?_)|refine zt ?_|refine zf ?_|refine br_i (fun h => ?_) (fun h => ?_))|refine zg ?_|refine zi ?_|refine zb ?_)
   all_goals conv=>whnf
   all_goals rfl
  ·rw [if_neg h2]
   have H1:=roPair_fn k2 g1 (by omega) (by omega)
   generalize pairC m.l m.n m.d=x at *
   generalize (m.l[x.1]?.getD default).id=u at *
   generalize (m.l[x.2.1]?.getD default).id=v at *
   refine fn_ok (by kernel_rfl) ty_ok Tryz.func36 rfl (fun _ _=>Tryz.call36 _ _) rfl ?_
   intro hw
   clear hw
   repeat' ((conv=>whnf);first|(with_reducible first|refine br_t ?_|refine br_f ?_|refine za ?_|refine zg ?_)|rw [List.length_map]|refine zp ?_|refine zq ?_|(with_reducible first|refine bc (fun h => ?_) (fun h => ?_)|refine zt ?_|refine zf ?_|refine br_i (fun h => ?_) (fun h => ?_))|refine zg ?_|refine zi ?_|refine zb ?_)
   all_goals conv=>whnf
   all_goals rfl
 ·have H1:=rochanged_fn (m:=m) (by omega) a
  have e:askV m a=if (chgF m a).2=0 then (⟨m.n,m.d,(chgF m a).1⟩,rp0) else (m,rpE (chgF m a).2):=by
   unfold askV chgF
   rw [hf,if_pos rfl,if_neg h4,if_neg h5]
   rcases hk with h|h|h|h|h|h
   ·simp only [if_pos h]
   ·simp only [if_neg (show ¬ a.k=1 by omega),if_pos h]
   ·simp only [if_neg (show ¬ a.k=1 by omega),if_neg (show ¬ a.k=2 by omega),if_pos h]
   all_goals omega
  rw [e]
  generalize chgF m a=x at *
  obtain ⟨f,z⟩:=x
  dsimp only at H1 ⊢
  by_cases h0:z=0
  ·rw [if_pos h0] at H1 ⊢
   simp only [Md.dc] at H1
   subst h0
   refine fn_ok (by kernel_rfl) ty_ok Tryz.func36 rfl (fun _ _=>Tryz.call36 _ _) rfl ?_
   intro hw
   clear hw
   exact zw
  ·rw [if_neg h0] at H1 ⊢
   refine fn_ok (by kernel_rfl) ty_ok Tryz.func36 rfl (fun _ _=>Tryz.call36 _ _) rfl ?_
   intro hw
   clear hw
   exact zw
end Go.Proofs.YtddbmpbihpkabaaGreat

namespace Go.Proofs.YtddbmpbihpkabaaGreat
open Go Go.RowKit Go.Sort Sx
theorem incr_pw {l:List Pt}:incr l=true↔l.Pairwise fun p q=>p.id<q.id:=by
 rw [List.pairwise_iff_getElem]
 refine ⟨fun h i j hi hj hij=>incr_lt h j i hj hij,fun h=>incr_iff.2 fun i hi=>h i (i+1) (by omega) hi (by omega)⟩
theorem fchk_mk {l:List Pt} (h1:l.length≤64) (h2:∀ p∈l,p.chk=0) (h3:incr l=true):fchk l=0:=by
 unfold fchk
 rw [if_neg (by omega),if_pos (List.all_eq_true.2 fun p hp=>by simpa using h2 p hp),if_pos h3]
theorem incr_insP {l:List Pt} {p:Pt} (h:incr l=true) (hn:has l p.id=false):incr (insP l p)=true:=by
 obtain ⟨h1,h2⟩:=pos_spec (id:=p.id) h
 have hne:∀ q∈l,q.id≠p.id:=fun q hq e=>by
  have:has l p.id=true:=List.any_eq_true.2 ⟨q,hq,by simp [e]⟩
  rw [hn] at this;cases this
 rw [incr_pw] at h ⊢
 unfold insP
 refine List.pairwise_append.2 ⟨h.sublist (List.take_sublist ..),List.pairwise_cons.2 ⟨fun q hq => ?_,h.sublist (List.drop_sublist ..)⟩,fun a ha b hb => ?_⟩
 ·obtain ⟨k,hk,rfl⟩:=List.mem_iff_getElem.1 hq
  rw [List.getElem_drop]
  rw [List.length_drop] at hk
  have:=h2 (pos l p.id+k) (by omega) (by omega)
  have:=hne _ (List.getElem_mem (show pos l p.id+k<l.length by omega))
  omega
 ·have ha':a.id<p.id:=by
   obtain ⟨k,hk,rfl⟩:=List.mem_iff_getElem.1 ha
   rw [List.getElem_take]
   rw [List.length_take] at hk
   exact h1 k (by omega) (by omega)
  rcases List.mem_cons.1 hb with rfl|hb
  ·exact ha'
  ·obtain ⟨k,hk,rfl⟩:=List.mem_iff_getElem.1 hb
   rw [List.getElem_drop]
   rw [List.length_drop] at hk
   have:=h2 (pos l p.id+k) (by omega) (by omega)
   omega
theorem putV_ok {l:List Pt} {p:Pt} (h:(putV l p).2=0):fchk (putV l p).1=0:=by
 unfold putV at h ⊢
 split at h
 ·rename_i h0
  rw [if_pos h0]
  split at h
  ·rename_i h1
   rw [if_pos h1]
   split at h
   ·simp at h
   ·rename_i h2
    rw [if_neg h2]
    split at h
    ·simp at h
    ·rename_i h3
     rw [if_neg h3]
     obtain ⟨k1,k2,k3⟩:=fchk_ok h0
     refine fchk_mk ?_ (fun q hq => ?_) (incr_insP k3 (by simpa using h2))
     ·show (insP l p).length≤64
      unfold insP
      simp only [List.length_append,List.length_cons,List.length_take,List.length_drop]
      omega
     ·have hq:q∈insP l p:=hq
      unfold insP at hq
      rcases List.mem_append.1 hq with hq|hq
      ·exact k2 q (List.mem_of_mem_take hq)
      ·rcases List.mem_cons.1 hq with rfl|hq
       ·exact h1
       ·exact k2 q (List.mem_of_mem_drop hq)
  ·simp at h
 ·rename_i h0;exact absurd h h0
theorem takeV_ok {l:List Pt} {id:Int} (h:(takeV l id).2=0):fchk (takeV l id).1=0:=by
 unfold takeV at h ⊢
 split at h
 ·rename_i h0
  rw [if_pos h0]
  split at h
  ·rename_i h1
   rw [if_pos h1]
   obtain ⟨k1,k2,k3⟩:=fchk_ok h0
   show fchk (without l id)=0
   unfold without
   exact fchk_mk (Nat.le_trans (List.length_filter_le ..) k1) (fun q hq=>k2 q (List.mem_filter.1 hq).1) (incr_pw.2 ((incr_pw.1 k3).filter _))
  ·simp at h
 ·rename_i h0;exact absurd h h0
theorem changeV_ok {l:List Pt} {p:Pt} (h:(changeV l p).2=0):fchk (changeV l p).1=0:=by
 unfold changeV at h ⊢
 split at h
 ·rename_i h0
  rw [if_pos h0]
  split at h
  ·rename_i h1
   rw [if_pos h1]
   split at h
   ·rename_i h2
    rw [if_pos h2]
    obtain ⟨k1,k2,k3⟩:=fchk_ok h0
    obtain ⟨hlt,he⟩:=(has_pos k3).1 h2
    show fchk (l.set (pos l p.id) p)=0
    refine fchk_mk (by simpa using k1) (fun q hq => ?_) (incr_pw.2 (List.pairwise_iff_getElem.2 fun i j hi hj hij => ?_))
    ·rcases List.mem_or_eq_of_mem_set hq with hq|rfl
     ·exact k2 q hq
     ·exact h1
    ·have key:∀ k (hk:k<(l.set (pos l p.id) p).length),(l.set (pos l p.id) p)[k].id=(l[k]'(by simpa using hk)).id:=fun k hk=>by
      rw [List.getElem_set]
      split
      ·rename_i e;subst e;exact he.symm
      ·rfl
     rw [key,key]
     exact incr_lt k3 j i (by simpa using hj) hij
   ·simp at h
  ·simp at h
 ·rename_i h0;exact absurd h h0
theorem mchk_mk {m:Md} (h1:askd m.n m.d=0) (h2:fchk m.l=0):mchk m=0:=by
 rw [mchk_orN,h1,h2];rfl
theorem askV_ok {m:Md} (hm:mchk m=0) (a:Ak):mchk (askV m a).1=0:=by
 obtain ⟨g1,g2⟩:=mchk_ok hm
 unfold askV
 split
 ·split
  ·split
   ·exact mchk_mk g1 (putV_ok (by assumption))
   ·exact hm
  ·split
   ·split
    ·exact mchk_mk g1 (takeV_ok (by assumption))
    ·exact hm
   ·split
    ·split
     ·exact mchk_mk g1 (changeV_ok (by assumption))
     ·exact hm
    ·split
     ·split
      ·split
       ·exact hm
       ·exact mchk_mk (by assumption) g2
      ·exact hm
     ·split
      ·split<;>exact hm
      ·exact hm
 ·exact hm
end Go.Proofs.YtddbmpbihpkabaaGreat

namespace Go.Proofs.YtddbmpbihpkabaaGreat
open Go Go.RowKit Go.Sort Sx
set_option maxRecDepth 2000
abbrev aks (l:List Ak):D:=.list 7 (l.map Ak.c)
abbrev rps (l:List Rp):D:=.list 6 (l.map Rp.c)
def md0:Md:=⟨0,0,[]⟩
theorem aks_get {l:List Ak} {i:Nat} (h:i<l.length):(l.map Ak.c)[((i:Nat):Int).toNat]? = some [u8 l[i].k,i64 l[i].p.id,i64 l[i].p.a,i64 l[i].p.b,i64 l[i].id,i64 l[i].n,i64 l[i].d]:=by
 rw [Int.toNat_natCast,List.getElem?_map,List.getElem?_eq_getElem h];rfl
theorem rps_get {l:List Rp} {i:Nat} (h:i<l.length):(l.map Rp.c)[((i:Nat):Int).toNat]? = some [i64 l[i].e,i64 l[i].i,i64 l[i].j,i64 l[i].n,i64 l[i].d,mts l[i].ms]:=by
 rw [Int.toNat_natCast,List.getElem?_map,List.getElem?_eq_getElem h];rfl
theorem Rp.eq_iff {p q:Rp}:p=q↔p.e=q.e∧p.i=q.i∧p.j=q.j∧(p.n=q.n∧p.d=q.d)∧p.ms=q.ms:=by
 cases p;cases q;simp [and_assoc]
theorem wd_rps {l:List Rp} (h:WD (rps l)):l.length≤9223372036854775807:=by
 obtain ⟨h1,_,h3⟩:=WD_list.1 h
 simpa using h1
theorem wd_aks {l:List Ak} (h:WD (aks l)):l.length≤9223372036854775807:=by
 obtain ⟨h1,_,h3⟩:=WD_list.1 h
 simpa using h1
def doV (m:Md) (a:Ak):Md × Rp × Int:=if mchk m=0 then ((askV m a).1,(askV m a).2,0) else (md0,rp0,8)
abbrev retD (x:Md × Rp × Int):DV:=.tup [x.1.dc,x.2.1.dc,.one (i64 x.2.2)]
theorem oDo_fn (m:Md) (a:Ak):FnOK Tryz.prog 70 [m.dc,a.dc] (retD (doV m a)):=by
 have H:=oCheck_fn m
 unfold doV
 by_cases h:mchk m=0
 ·rw [if_pos h]
  have H1:=oask_fn h a
  rw [h] at H
  generalize askV m a=x at *
  simp only [retA] at H1
  refine fn_ok (by kernel_rfl) ty_ok Tryz.func70 rfl (fun _ _=>Tryz.call70 _ _) rfl ?_
  intro hw
  clear hw
  exact zw
 ·rw [if_neg h]
  have h8:=(mchk_08 m).resolve_left h
  rw [h8] at H
  refine fn_ok (by kernel_rfl) ty_ok Tryz.func70 rfl (fun _ _=>Tryz.call70 _ _) rfl ?_
  intro hw
  clear hw
  exact zw
theorem oSame_fn (a b:Rp):FnOK Tryz.prog 71 [a.dc,b.dc] (.c (.one (bol (decide (a=b))))):=by
 have H:=eqMt_fn a.ms b.ms
 have e:=Rp.eq_iff (p:=a) (q:=b)
 by_cases c:a.ms=b.ms
 ·rw [decide_eq_true c] at H
  simp only [c,and_true] at e
  refine fn_ok (by kernel_rfl) ty_ok Tryz.func71 rfl (fun _ _=>Tryz.call71 _ _) rfl ?_
  intro hw
  clear hw
  repeat' ((conv=>whnf);first|(with_reducible first|refine br_t ?_|refine br_f ?_|refine za ?_|refine zg ?_)|refine zp ?_|refine zq ?_|(with_reducible first|refine bc (fun h => ?_) (fun h => ?_)|refine zt ?_|refine zf ?_|refine br_i (fun h => ?_) (fun h => ?_)|refine xi (pv_bool fun _=>eqv23 _ _ _ _ _ _ _) ?_)|refine zg ?_|refine zi ?_|refine zb ?_)
  all_goals conv=>whnf
  all_goals
   refine r_bool ?_
   rw [Bool.eq_iff_iff]
   rw [decide_eq_true_eq,e]
   first|(refine iff_of_true rfl ?_;omega)|(refine iff_of_false (by decide) ?_;omega)
 ·rw [decide_eq_false c] at H
  simp only [c,and_false,iff_false] at e
  rw [decide_eq_false e]
  refine fn_ok (by kernel_rfl) ty_ok Tryz.func71 rfl (fun _ _=>Tryz.call71 _ _) rfl ?_
  intro hw
  clear hw
  repeat' ((conv=>whnf);first|(with_reducible first|refine br_t ?_|refine br_f ?_|refine za ?_|refine zg ?_)|refine zp ?_|refine zq ?_|(with_reducible first|refine bc (fun h => ?_) (fun h => ?_)|refine zt ?_|refine zf ?_|refine br_i (fun h => ?_) (fun h => ?_)|refine xi (pv_bool fun _=>eqv23 _ _ _ _ _ _ _) ?_)|refine zg ?_|refine zi ?_|refine zb ?_)
  all_goals conv=>whnf
  all_goals rfl
theorem roSame_fn (a b:Rp):FnOK Tryz.prog 43 [a.dc,b.dc] (.c (.one (bol (decide (a=b))))):=by
 have H:=rmSame_fn a.ms b.ms
 have e:=Rp.eq_iff (p:=a) (q:=b)
 by_cases c:a.ms=b.ms
 ·rw [decide_eq_true c] at H
  simp only [c,and_true] at e
  refine fn_ok (by kernel_rfl) ty_ok Tryz.func43 rfl (fun _ _=>Tryz.call43 _ _) rfl ?_
  intro hw
  clear hw
  repeat' ((conv=>whnf);first|(with_reducible first|refine br_t ?_|refine br_f ?_|refine za ?_|refine zg ?_)|refine zp ?_|refine zq ?_|(with_reducible first|refine bc (fun h => ?_) (fun h => ?_)|refine zt ?_|refine zf ?_|refine br_i (fun h => ?_) (fun h => ?_)|refine xi (pv_bool fun _=>eqv23 _ _ _ _ _ _ _) ?_)|refine zg ?_|refine zi ?_|refine zb ?_)
  all_goals conv=>whnf
  all_goals
   refine r_bool ?_
   rw [Bool.eq_iff_iff]
   rw [decide_eq_true_eq,e]
   first|(refine iff_of_true rfl ?_;omega)|(refine iff_of_false (by decide) ?_;omega)
 ·rw [decide_eq_false c] at H
  simp only [c,and_false,iff_false] at e
  rw [decide_eq_false e]
  refine fn_ok (by kernel_rfl) ty_ok Tryz.func43 rfl (fun _ _=>Tryz.call43 _ _) rfl ?_
  intro hw
  clear hw
  repeat' ((conv=>whnf);first|(with_reducible first|refine br_t ?_|refine br_f ?_|refine za ?_|refine zg ?_)|refine zp ?_|refine zq ?_|(with_reducible first|refine bc (fun h => ?_) (fun h => ?_)|refine zt ?_|refine zf ?_|refine br_i (fun h => ?_) (fun h => ?_)|refine xi (pv_bool fun _=>eqv23 _ _ _ _ _ _ _) ?_)|refine zg ?_|refine zi ?_|refine zb ?_)
  all_goals conv=>whnf
  all_goals rfl
theorem roSameAll_fn (a b:List Rp):FnOK Tryz.prog 29 [.one (rps a),.one (rps b)] (.c (.one (bol (decide (a=b))))):=by
 refine fn_ok (by kernel_rfl) ty_ok Tryz.func29 rfl (fun _ _=>Tryz.call29 _ _) rfl ?_
 intro hw
 simp only [WDCs,WDC,WDs] at hw
 have w1:=wd_rps hw.1
 have w2:=wd_rps hw.2.1
 clear hw
 by_cases h0:a.length=b.length
 ·repeat' ((conv=>whnf);first|(with_reducible first|refine br_t ?_|refine br_f ?_|refine za ?_|refine zg ?_)|rw [List.length_map]|refine zp ?_|refine zq ?_|(with_reducible first|refine bc (fun h => ?_) (fun h => ?_)|refine zt ?_|refine zf ?_|refine br_i (fun h => ?_) (fun h => ?_))|refine zg ?_|refine zi ?_|refine zb ?_)
  refine loop_J (by kernel_rfl) ty_ok (σ:=Nat) (fun i=>[(5,sV (.int .i64 i))]) (fun _=>[]) (fun i=>i≤a.length∧a.take i=b.take i) (fun i=>a.length-i) 0 ⟨by omega,rfl⟩ ?_ ?_
  ·(conv=>whnf);exact zent
  rintro i ⟨hi,hI⟩
  rcases Nat.lt_or_ge i a.length with hlt|hge
  ·have hb:i<b.length:=by omega
   have he1:=rps_get hlt
   have he2:=rps_get hb
   have H:=roSame_fn a[i] b[i]
   by_cases hc:a[i]=b[i]
   ·rw [decide_eq_true hc] at H
    have hn:=take_succ_eq hI hlt hb hc
    clear hc
    repeat' ((conv=>whnf);first|(with_reducible first|refine br_t ?_|refine br_f ?_|refine za ?_|refine zg ?_)|rw [List.length_map]|refine zp ?_|refine zq ?_|(with_reducible first|refine bc (fun h => ?_) (fun h => ?_)|refine zt ?_|refine zf ?_|refine br_i (fun h => ?_) (fun h => ?_))|refine zg ?_|refine zi ?_|refine zb ?_)
    all_goals conv=>whnf
    refine ⟨i+1,⟨by omega,hn⟩,?_,by omega⟩
    (conv=>whnf);exact zent
   ·rw [decide_eq_false hc] at H
    rw [decide_eq_false (ne_of_get hlt hb hc)]
    clear hc
    repeat' ((conv=>whnf);first|(with_reducible first|refine br_t ?_|refine br_f ?_|refine za ?_|refine zg ?_)|rw [List.length_map]|refine zp ?_|refine zq ?_|(with_reducible first|refine bc (fun h => ?_) (fun h => ?_)|refine zt ?_|refine zf ?_|refine br_i (fun h => ?_) (fun h => ?_))|refine zg ?_|refine zi ?_|refine zb ?_)
    all_goals conv=>whnf
    all_goals rfl
  ·rw [decide_eq_true (take_all_eq hI h0 hge)]
   repeat' ((conv=>whnf);first|(with_reducible first|refine br_t ?_|refine br_f ?_|refine za ?_|refine zg ?_)|rw [List.length_map]|refine zp ?_|refine zq ?_|(with_reducible first|refine bc (fun h => ?_) (fun h => ?_)|refine zt ?_|refine zf ?_|refine br_i (fun h => ?_) (fun h => ?_))|refine zg ?_|refine zi ?_|refine zb ?_)
   all_goals conv=>whnf
   all_goals rfl
 ·rw [decide_eq_false (fun h=>h0 (congrArg List.length h))]
  repeat' ((conv=>whnf);first|(with_reducible first|refine br_t ?_|refine br_f ?_|refine za ?_|refine zg ?_)|rw [List.length_map]|refine zp ?_|refine zq ?_|(with_reducible first|refine bc (fun h => ?_) (fun h => ?_)|refine zt ?_|refine zf ?_|refine br_i (fun h => ?_) (fun h => ?_))|refine zg ?_|refine zi ?_|refine zb ?_)
  all_goals conv=>whnf
  all_goals rfl
end Go.Proofs.YtddbmpbihpkabaaGreat

namespace Go.Proofs.YtddbmpbihpkabaaGreat
open Go Go.RowKit Sx
namespace Sx
def shAsk:Sh:=.st (.fc 1 (.int .u8) (.fc 3 shPoint (.fc 1 shInt (.fc 2 shRatio .f0))))
def shAsks:Sh:=.sl 7 shAsk
def shMeeting:Sh:=.st (.fc 2 shRatio (.fc 1 shInt (.fc 1 shInt .f0)))
def shReply:Sh:=.st (.fc 1 shInt (.fc 1 shInt (.fc 1 shInt (.fc 2 shRatio (.fc 1 (.sl 4 shMeeting) .f0)))))
def shReplies:Sh:=.sl 6 shReply
end Sx
theorem fits_ask {ds:List D} (h:Fits shAsk ds):∃ a:Ak,ds=a.c:=by
 obtain ⟨_,_,rfl,⟨k,rfl⟩,_,_,rfl,h2,_,_,rfl,⟨i,rfl⟩,_,_,rfl,h3,rfl⟩:=h
 obtain ⟨p,rfl⟩:=fits_point h2
 obtain ⟨n,d,rfl⟩:=fits_ratio h3
 exact ⟨⟨k,p,i,n,d⟩,rfl⟩
theorem fits_meeting {ds:List D} (h:Fits shMeeting ds):∃ a:Mt,ds=a.c:=by
 obtain ⟨_,_,rfl,h3,_,_,rfl,⟨i,rfl⟩,_,_,rfl,⟨j,rfl⟩,rfl⟩:=h
 obtain ⟨n,d,rfl⟩:=fits_ratio h3
 exact ⟨⟨n,d,i,j⟩,rfl⟩
theorem fits_reply {ds:List D} (h:Fits shReply ds):∃ a:Rp,ds=a.c:=by
 obtain ⟨_,_,rfl,⟨e,rfl⟩,_,_,rfl,⟨i,rfl⟩,_,_,rfl,⟨j,rfl⟩,_,_,rfl,h3,_,_,rfl,⟨l,rfl,h4⟩,rfl⟩:=h
 obtain ⟨n,d,rfl⟩:=fits_ratio h3
 obtain ⟨l',rfl⟩:=exists_map (f:=Mt.c) fun x hx=>fits_meeting (h4 x hx)
 exact ⟨⟨e,i,j,n,d,l'⟩,rfl⟩
end Go.Proofs.YtddbmpbihpkabaaGreat

namespace Go.Proofs.YtddbmpbihpkabaaGreat
open Go Go.RowKit Go.Sort Sx
set_option maxRecDepth 2000
def runs:Md→List Ak→Md × List Rp
 | m,[]=>(m,[])
 | m,a::l=>((runs (askV m a).1 l).1,(askV m a).2::(runs (askV m a).1 l).2)
theorem runs_append:∀ (m:Md) (l r:List Ak),runs m (l++r)=((runs (runs m l).1 r).1,(runs m l).2++(runs (runs m l).1 r).2)
 | m,[],r=>rfl
 | m,a::l,r=>by
  simp only [List.cons_append,runs,runs_append (askV m a).1 l r]
theorem runs_snoc (m:Md) (l:List Ak) (a:Ak):runs m (l++[a])=((askV (runs m l).1 a).1,(runs m l).2++[(askV (runs m l).1 a).2]):=by
 rw [runs_append];rfl
theorem runs_ok:∀ {m:Md} (l:List Ak),mchk m=0→mchk (runs m l).1=0
 | _,[],h=>h
 | _,a::l,h=>runs_ok l (askV_ok h a)
theorem runs_len:∀ (m:Md) (l:List Ak),(runs m l).2.length=l.length
 | _,[]=>rfl
 | m,a::l=>by simp only [runs,List.length_cons,runs_len]
theorem runs_succ {m:Md} {l:List Ak} {i:Nat} (h:i<l.length):runs m (l.take (i+1))=((askV (runs m (l.take i)).1 l[i]).1,(runs m (l.take i)).2++[(askV (runs m (l.take i)).1 l[i]).2]):=by
 rw [List.take_succ_eq_append_getElem h,runs_snoc]
def runV (m:Md) (l:List Ak):Md × List Rp × Int:=if mchk m=0 then (if 120<l.length then (md0,[],4) else ((runs m l).1,(runs m l).2,0)) else (md0,[],8)
abbrev retR (x:Md × List Rp × Int):DV:=.tup [x.1.dc,.one (rps x.2.1),.one (i64 x.2.2)]
theorem oRun_fn (m:Md) (l:List Ak):FnOK Tryz.prog 17 [m.dc,.one (aks l)] (retR (runV m l)):=by
 have H:=oCheck_fn m
 unfold runV
 by_cases h:mchk m=0
 ·rw [if_pos h]
  rw [h] at H
  obtain ⟨g1,g2⟩:=mchk_ok h
  obtain ⟨k1,k2,k3⟩:=fchk_ok g2
  have HC:=ok_of_own (clonePt_own (m.l.map Pt.c) (by simp;omega))
  by_cases h1:120<l.length
  ·rw [if_pos h1]
   refine fn_ok (by kernel_rfl) (ty_okK [9,48] [] [] []) Tryz.func17 rfl (fun _ _=>Tryz.call17 _ _) rfl ?_
   intro hw
   simp only [WDCs,WDC,WDs] at hw
   have w1:=wd_aks hw.2.1
   clear hw
   repeat' ((conv=>whnf);first|(with_reducible first|refine br_t ?_|refine br_f ?_|refine za ?_|refine zg ?_|refine zo ?_)|rw [List.length_map]|refine zp ?_|refine zq ?_|(with_reducible first|refine bc (fun h => ?_) (fun h => ?_)|refine zt ?_|refine zf ?_|refine br_i (fun h => ?_) (fun h => ?_))|refine zg ?_|refine zi ?_|refine zb ?_|refine zl ?_)
   all_goals conv=>whnf
   all_goals rfl
  ·rw [if_neg h1]
   refine fn_ok (by kernel_rfl) (ty_okK [9,48] [] [] []) Tryz.func17 rfl (fun _ _=>Tryz.call17 _ _) rfl ?_
   intro hw
   clear hw
   repeat' ((conv=>whnf);first|(with_reducible first|refine br_t ?_|refine br_f ?_|refine za ?_|refine zg ?_|refine zo ?_)|rw [List.length_map]|refine zp ?_|refine zq ?_|(with_reducible first|refine bc (fun h => ?_) (fun h => ?_)|refine zt ?_|refine zf ?_|refine br_i (fun h => ?_) (fun h => ?_))|refine zg ?_|refine zi ?_|refine zb ?_|refine zl ?_)
   refine loop_J (by kernel_rfl) (ty_okK [9,48] [] [] []) (σ:=Nat × Md × List Rp) (fun s=>[(34,sV (.int .i64 s.1)),(9,.c (.at (.osl 9 0)))]) (fun s=>[(8,.own [.d (i64 s.2.1.n),.d (i64 s.2.1.d),.d (pts s.2.1.l)]),(9,.row 6 (s.2.2.map Rp.c) 0)]) (fun s=>s.1≤l.length∧mchk s.2.1=0∧runs m (l.take s.1)=s.2) (fun s=>l.length-s.1) (0,m,[]) ⟨by omega,h,rfl⟩ ?_ ?_
   ·(conv=>whnf);exact zent
   rintro ⟨i,u,o⟩ ⟨hi,hu,hI⟩
   dsimp only at hi hu hI
   have hol:(o.map Rp.c).length=o.length:=List.length_map ..
   have hoi:o.length=(l.take i).length:=by have:=runs_len m (l.take i);rw [hI] at this;exact this
   rw [List.length_take] at hoi
   rcases Nat.lt_or_ge i l.length with hlt|hge
   ·have hel:=aks_get hlt
    have HA:=oask_fn hu l[i]
    have hn:=runs_succ (m:=m) hlt
    have hv:=askV_ok hu l[i]
    rw [hI] at hn
    dsimp only at hn
    generalize askV u l[i]=x at *
    obtain ⟨y,r⟩:=x
    dsimp only at hn hv
    simp only [retA] at HA
    have hs:o.map Rp.c++[[i64 r.e,i64 r.i,i64 r.j,i64 r.n,i64 r.d,mts r.ms]]=(o++[r]).map Rp.c:=by rw [List.map_append];rfl
    generalize l[i]=a at *
    repeat' ((conv=>whnf);first|(with_reducible first|refine br_t ?_|refine br_f ?_|refine za ?_|refine zg ?_|refine zo ?_)|rw [hol]|rw [List.length_map]|refine zp ?_|refine zq ?_|(with_reducible first|refine bc (fun h => ?_) (fun h => ?_)|refine zt ?_|refine zf ?_|refine br_i (fun h => ?_) (fun h => ?_))|refine zg ?_|refine zi ?_|refine zb ?_|refine zl ?_)
    all_goals conv=>whnf
    refine ⟨(i+1,y,o++[r]),⟨by omega,hv,hn⟩,?_,by simp only;omega⟩
    (conv=>whnf);refine ⟨by repeat' (first|with_reducible exact zE0|with_reducible refine zE1 ?_ ?_|rfl|assumption|((exact congrArg (fun x=>some (Blk.row 6 x 0)) hs))|exact zi1|exact zb1),by repeat' (first|with_reducible exact zH0|with_reducible refine zH1 ?_ ?_|rfl|assumption|((exact congrArg (fun x=>some (Blk.row 6 x 0)) hs))),rfl⟩
   ·obtain rfl:i=l.length:=by omega
    rw [List.take_of_length_le (Nat.le_refl _)] at hI
    rw [hI]
    repeat' ((conv=>whnf);first|(with_reducible first|refine br_t ?_|refine br_f ?_|refine za ?_|refine zg ?_|refine zo ?_)|rw [hol]|rw [List.length_map]|refine zp ?_|refine zq ?_|(with_reducible first|refine bc (fun h => ?_) (fun h => ?_)|refine zt ?_|refine zf ?_|refine br_i (fun h => ?_) (fun h => ?_))|refine zg ?_|refine zi ?_|refine zb ?_|refine zl ?_)
    all_goals conv=>whnf
    all_goals rfl
 ·rw [if_neg h]
  have h8:=(mchk_08 m).resolve_left h
  rw [h8] at H
  refine fn_ok (by kernel_rfl) (ty_okK [9,48] [] [] []) Tryz.func17 rfl (fun _ _=>Tryz.call17 _ _) rfl ?_
  intro hw
  clear hw
  exact zw
end Go.Proofs.YtddbmpbihpkabaaGreat

namespace Go.Proofs.YtddbmpbihpkabaaGreat
open Go.RowKit Go.Sort Sx
def kept:Md→List Ak→List Ak
 | _,[]=>[]
 | m,a::l=>if (askV m a).2.e=0 then a::kept (askV m a).1 l else kept (askV m a).1 l
end Go.Proofs.YtddbmpbihpkabaaGreat

namespace Go.Proofs.YtddbmpbihpkabaaGreat
open Go.RowKit Go.Sort Sx
structure Lg where
 s:Md
 al:List Ak
 rs:List Rp
 deriving DecidableEq,Inhabited
abbrev Lg.dc (x:Lg):DC:=.agg [i64 x.s.n,i64 x.s.d,pts x.s.l,aks x.al,rps x.rs]
def lg0:Lg:=⟨md0,[],[]⟩
def recV (m:Md) (l:List Ak):Lg × Int:=if mchk m=0 then (if 120<l.length then (lg0,4) else (⟨m,l,(runs m l).2⟩,0)) else (lg0,8)
def wrg:Md→List Ak→List Rp→Option Nat
 | m,a::l,r::rs=>if (askV m a).2=r then (wrg (askV m a).1 l rs).map (·+1) else some 0
 | _,_,_=>none
def wrgI (m:Md) (l:List Ak) (rs:List Rp):Int × Int:=match wrg m l rs with|none=>(0,6)|some i=>((i:Int),0)
def formL (x:Lg):Int:=if 120<x.al.length then 4 else if mchk x.s=0∧x.rs.length=x.al.length then 0 else 8
def wrongV (x:Lg):Int × Int:=if formL x=0 then wrgI x.s x.al x.rs else (0,formL x)
def lchk (x:Lg):Int:=if formL x=0 then (if wrg x.s x.al x.rs=none then 0 else 36) else formL x
theorem wrg_none:∀ (m:Md) (l:List Ak) (rs:List Rp),rs.length=l.length→(wrg m l rs=none↔(runs m l).2=rs)
 | m,[],rs,h=>by
  obtain rfl:=List.eq_nil_of_length_eq_zero h
  exact iff_of_true rfl rfl
 | m,a::l,[],h=>by simp at h
 | m,a::l,r::rs,h=>by
  rw [wrg,runs]
  by_cases c:(askV m a).2=r
  ·rw [if_pos c,Option.map_eq_none_iff,wrg_none _ l rs (by simpa using h),c]
   simp
  ·rw [if_neg c]
   simp [c]
theorem wrg_some:∀ (m:Md) (l:List Ak) (rs:List Rp) (i:Nat),rs.length=l.length→(wrg m l rs=some i↔∃ (h1:i<(runs m l).2.length) (h2:i<rs.length),(runs m l).2[i]≠rs[i]∧∀ j (k1:j<(runs m l).2.length) (k2:j<rs.length),j<i→(runs m l).2[j]=rs[j])
 | m,[],rs,i,h=>by
  obtain rfl:=List.eq_nil_of_length_eq_zero h
  simp [wrg,runs]
 | m,a::l,[],i,h=>by simp at h
 | m,a::l,r::rs,i,h=>by
  rw [wrg]
  have ih:=fun i=>wrg_some (askV m a).1 l rs i (by simpa using h)
  have er:(runs m (a::l)).2=(askV m a).2::(runs (askV m a).1 l).2:=rfl
  rw [er]
  by_cases c:(askV m a).2=r
  ·rw [if_pos c,Option.map_eq_some_iff]
   constructor
   ·rintro ⟨k,hk,rfl⟩
    obtain ⟨h1,h2,h3,h4⟩:=(ih k).1 hk
    refine ⟨by simpa using h1,by simpa using h2,by simpa using h3,fun j k1 k2 hj => ?_⟩
    cases j with
    | zero=>exact c
    | succ j=>exact h4 j (by simpa using k1) (by simpa using k2) (by omega)
   ·rintro ⟨h1,h2,h3,h4⟩
    cases i with
    | zero=>exact absurd c h3
    | succ i=>exact ⟨i,(ih i).2 ⟨by simpa using h1,by simpa using h2,by simpa using h3,fun j k1 k2 hj=>h4 (j+1) (by simpa using k1) (by simpa using k2) (by omega)⟩,rfl⟩
  ·rw [if_neg c]
   constructor
   ·intro e
    injection e with e
    subst e
    exact ⟨by simp,by simp,c,fun j _ _ hj=>by omega⟩
   ·rintro ⟨h1,h2,h3,h4⟩
    cases i with
    | zero=>rfl
    | succ i=>exact absurd (h4 0 (by simp) (by simp) (by omega)) c
theorem runs_take (m:Md) (l:List Ak) (k:Nat):(runs m (l.take k)).2=(runs m l).2.take k:=by
 have h:=runs_append m (l.take k) (l.drop k)
 rw [List.take_append_drop] at h
 rw [h]
 dsimp only
 by_cases hk:k≤l.length
 ·have e1:(runs m (l.take k)).2.length=k:=by rw [runs_len,List.length_take];omega
  rw [List.take_append_of_le_length (by omega),List.take_of_length_le (Nat.le_of_eq e1)]
 ·rw [List.take_of_length_le (l:=l) (by omega),List.drop_of_length_le (by omega)]
  simp only [runs,List.append_nil]
  rw [List.take_of_length_le (by rw [runs_len];omega)]
theorem runs_drop (m:Md) (l:List Ak) (k:Nat):(runs (runs m (l.take k)).1 (l.drop k)).2=(runs m l).2.drop k:=by
 have h:=runs_append m (l.take k) (l.drop k)
 rw [List.take_append_drop] at h
 rw [h]
 dsimp only
 by_cases hk:k≤l.length
 ·have e1:(runs m (l.take k)).2.length=k:=by rw [runs_len,List.length_take];omega
  rw [List.drop_append_of_le_length (by omega),List.drop_of_length_le (Nat.le_of_eq e1),List.nil_append]
 ·rw [List.take_of_length_le (l:=l) (by omega),List.drop_of_length_le (l:=l) (by omega)]
  simp only [runs,List.append_nil]
  rw [List.drop_of_length_le (by rw [runs_len];omega)]
def latV (x:Lg) (n:Int):Md × Int:=if lchk x=0 then (if n<0∨(x.al.length:Int)<n then (md0,2) else ((runs x.s (x.al.take n.toNat)).1,0)) else (md0,lchk x)
def cutV (x:Lg) (n:Int):Lg × Lg × Int:=if (latV x n).2=0 then (⟨x.s,x.al.take n.toNat,x.rs.take n.toNat⟩,⟨(latV x n).1,x.al.drop n.toNat,x.rs.drop n.toNat⟩,0) else (lg0,lg0,(latV x n).2)
def joinV (x y:Lg):Lg × Int:=if lchk x=0 then (if lchk y=0 then (if (runs x.s x.al).1=y.s then (if 120<x.al.length+y.al.length then (lg0,4) else (⟨x.s,x.al++y.al,x.rs++y.rs⟩,0)) else (lg0,32)) else (lg0,lchk y)) else (lg0,lchk x)
theorem lchk_ok {x:Lg} (h:lchk x=0):x.al.length≤120∧mchk x.s=0∧x.rs=(runs x.s x.al).2:=by
 unfold lchk at h
 split at h
 ·rename_i hf
  split at h
  ·rename_i hw
   unfold formL at hf
   split at hf
   ·simp at hf
   ·split at hf
    ·rename_i h1 h2
     exact ⟨by omega,h2.1,((wrg_none _ _ _ h2.2).1 hw).symm⟩
    ·simp at hf
  ·simp at h
 ·rename_i hf;exact absurd h hf
end Go.Proofs.YtddbmpbihpkabaaGreat

namespace Go.Proofs.YtddbmpbihpkabaaGreat
open Go Go.RowKit Sx
namespace Sx
def shLedger:Sh:=.st (.fc 3 shModel (.fc 1 shAsks (.fc 1 shReplies .f0)))
end Sx
theorem fit_ledger {c:DC} (h:FitC shLedger c):∃ x:Lg,c=x.dc:=by
 obtain ⟨ds,rfl,h⟩:=h
 obtain ⟨_,_,rfl,h1,_,_,rfl,⟨l,rfl,h2⟩,_,_,rfl,⟨r,rfl,h3⟩,rfl⟩:=h
 obtain ⟨m,rfl⟩:=fits_model h1
 obtain ⟨l',rfl⟩:=exists_map (f:=Ak.c) fun x hx=>fits_ask (h2 x hx)
 obtain ⟨r',rfl⟩:=exists_map (f:=Rp.c) fun x hx=>fits_reply (h3 x hx)
 exact ⟨⟨m,l',r'⟩,rfl⟩
end Go.Proofs.YtddbmpbihpkabaaGreat

namespace Go.Proofs.YtddbmpbihpkabaaGreat
open Go Go.RowKit Sx
section
variable {C:World→Prop} {w:World} {M:Nat→Prop}
def Wk (C:World→Prop) (a b:Sx.D):Prop:=∀ w,C w→∀ M v,Rep w M a v→Rep w M b v
def WkL (C:World→Prop):List Sx.D→List Sx.D→Prop
 | [],[]=>True
 | a::l,b::r=>Wk C a b∧WkL C l r
 | _,_=>False
def WkC (C:World→Prop):DC→DC→Prop
 | .one a,.one b=>Wk C a b
 | .agg l,.agg r=>WkL C l r
 | _,_=>False
def WkCs (C:World→Prop):List DC→List DC→Prop
 | [],[]=>True
 | a::l,b::r=>WkC C a b∧WkCs C l r
 | _,_=>False
def WkV (C:World→Prop):DV→DV→Prop
 | .c a,.c b=>WkC C a b
 | .tup l,.tup r=>WkCs C l r
 | _,_=>False
theorem Wk.refl (a:Sx.D):Wk C a a:=fun _ _ _ _ h=>h
theorem WkL.refl:∀ l:List Sx.D,WkL C l l
 | []=>trivial
 | a::l=>⟨Wk.refl a,WkL.refl l⟩
theorem WkC.refl:∀ a:DC,WkC C a a
 | .one a=>Wk.refl a
 | .agg l=>WkL.refl l
theorem WkCs.refl:∀ l:List DC,WkCs C l l
 | []=>trivial
 | a::l=>⟨WkC.refl a,WkCs.refl l⟩
theorem DsR_wk (hC:C w):∀ {l r:List Sx.D} {vs:List Value},WkL C l r→DsR w M l vs→DsR w M r vs
 | [],[],[],_,_=>trivial
 | [],[],_::_,_,h=>h.elim
 | a::l,b::r,[],_,h=>h.elim
 | a::l,b::r,v::vs,k,h=>⟨k.1 w hC M v h.1,DsR_wk hC k.2 h.2⟩
 | [],_::_,_,k,_=>k.elim
 | _::_,[],_,k,_=>k.elim
theorem DCR_wk (hC:C w):∀ {a b:DC} {v:Value},WkC C a b→DCR w M a v→DCR w M b v
 | .one a,.one b,v,k,h=>k w hC M v h
 | .agg l,.agg r,v,k,⟨vs,e,h⟩=>⟨vs,e,DsR_wk hC k h⟩
 | .one _,.agg _,_,k,_=>k.elim
 | .agg _,.one _,_,k,_=>k.elim
theorem DCsR_wk (hC:C w):∀ {l r:List DC} {vs:List Value},WkCs C l r→DCsR w M l vs→DCsR w M r vs
 | [],[],[],_,_=>trivial
 | [],[],_::_,_,h=>h.elim
 | a::l,b::r,[],_,h=>h.elim
 | a::l,b::r,v::vs,k,h=>⟨DCR_wk hC k.1 h.1,DCsR_wk hC k.2 h.2⟩
 | [],_::_,_,k,_=>k.elim
 | _::_,[],_,k,_=>k.elim
theorem DVR_wk (hC:C w):∀ {a b:DV} {v:Value},WkV C a b→DVR w M a v→DVR w M b v
 | .c a,.c b,v,k,h=>DCR_wk hC k h
 | .tup l,.tup r,v,k,⟨vs,e,h⟩=>⟨vs,e,DCsR_wk hC k h⟩
 | .c _,.tup _,_,k,_=>k.elim
 | .tup _,.c _,_,k,_=>k.elim
theorem ok_wk {P:Program} {f:Nat} {args args':List DC} {r:DV} (h:FnOK P f args r) (ha:WkCs (fun _=>True) args' args):FnOK P f args' r :=
 fun w M vs hM hvs=>h w M vs hM (DCsR_wk trivial ha hvs)
theorem ok_wkR {P:Program} {f:Nat} {args:List DC} {r r':DV} (h:FnOK P f args r) (hr:WkV (fun _=>True) r r'):FnOK P f args r' :=
 fun w M vs hM hvs=>(h w M vs hM hvs).imp (fun ⟨g,hg,hc⟩=>⟨g,hg,hc.mono fun _ _ ⟨v,e,hv,hb⟩=>⟨v,e,DVR_wk trivial hr hv,hb⟩⟩) fun ⟨v,hg,hv⟩=>⟨v,hg,DVR_wk trivial hr hv⟩
theorem hue_weak {u:Bool} {n:Nat→Prop} {d:Sx.D} {v:Value} (h:Hue w M u n d v):Hue w M false n d v:=by
 induction h with
 | v x hn h hw=>exact .v x hn h hw
 | nil k x c hm hx=>exact .nil k x c hm hx
 | list vs hc hm hM hn hb hf hk hv hr ih=>exact .list vs hc hm hM hn hb (fun e=>by cases e) hk hv ih
theorem wk_hue {u:Bool} {n:Nat→Prop} {x:Sx.D}:Wk C (.hue u n x) x:=fun w _ M v h=>by
 cases h with
 | hue u n h=>exact h.rep
theorem wk_false {u:Bool} {n:Nat→Prop} {x:Sx.D}:Wk C (.hue u n x) (.hue false n x):=fun w _ M v h=>by
 cases h with
 | hue u n h=>exact .hue _ _ (hue_weak h)
theorem wk_ev {n:Nat→Prop} {x:Value}:Wk (Ev n) (.v x) (.hue true n (.v x)):=fun w hn M v h=>by
 cases h with
 | v _ h hw=>exact .hue _ _ (.v x hn h hw)
theorem WkL.get:∀ {l r:List Sx.D},WkL C l r→l.length=r.length∧∀ j (h1:j<l.length) (h2:j<r.length),Wk C l[j] r[j]
 | [],[],_=>⟨rfl,fun j h=>by cases h⟩
 | a::l,b::r,k=>by
  obtain ⟨e,h⟩:=WkL.get k.2
  refine ⟨by simp [e],fun j h1 h2 => ?_⟩
  cases j with
  | zero=>exact k.1
  | succ j=>exact h j (by simpa using h1) (by simpa using h2)
 | [],_::_,k=>k.elim
 | _::_,[],k=>k.elim
theorem wk_map {α:Type} {k:Nat} {f g:α→List Sx.D} (l:List α) (h:∀ a∈l,WkL C (f a) (g a)):Wk C (.list k (l.map f)) (.list k (l.map g)):=by
 intro w hC M v hr
 have hlen:(l.map f).length=(l.map g).length:=by rw [List.length_map,List.length_map]
 generalize hd:D.list k (l.map f)=d at hr
 cases hr with
 | nil k' x c hm hx =>
  injection hd with e1 e2
  have:l=[]:=List.map_eq_nil_iff.1 e2
  subst this
  exact .nil _ _ _ hm hx
 | v x h hw=>cases hd
 | nl k=>cases hd
 | em k x c hm=>cases hd
 | ref vs hM hb hv hr=>cases hd
 | clo ps hr=>cases hd
 | hue u n h=>cases hd
 | @list b off cap k' l' vs hc hm hM hb hk hv hr =>
  injection hd with e1 e2
  subst e1 e2
  rw [hlen]
  have hg:∀ i (h1:i<(l.map f).length) (h2:i<(l.map g).length),WkL C (l.map f)[i] (l.map g)[i]:=fun i h1 h2=>by
   rw [List.getElem_map,List.getElem_map]
   exact h _ (List.getElem_mem _)
  refine .list vs (by omega) hm hM hb (fun x hx => ?_) (fun i j hi hj=>hv i j (by omega) hj) fun i j hi hj => ?_
  ·obtain ⟨i,hi,rfl⟩:=List.getElem_of_mem hx
   rw [← (hg i (by omega) hi).get.1]
   exact hk _ (List.getElem_mem _)
  ·have hi':i<(l.map f).length:=by omega
   have hw:=(hg i hi' hi).get
   exact hw.2 j (by rw [hw.1];exact hj) hj w hC M _ (hr i j hi' (by rw [hw.1];exact hj))
def Hs (w:World) (M:Nat→Prop) (u:Bool) (n:Nat→Prop) (a b:Sx.D):Prop:=∀ v,Rep w M a v→Hue w M u n b v
def HsL (w:World) (M:Nat→Prop) (u:Bool) (n:Nat→Prop):List Sx.D→List Sx.D→Prop
 | [],[]=>True
 | a::l,b::r=>Hs w M u n a b∧HsL w M u n l r
 | _,_=>False
theorem HsL.get {u:Bool} {n:Nat→Prop}:∀ {l r:List Sx.D},HsL w M u n l r→l.length=r.length∧∀ j (h1:j<l.length) (h2:j<r.length),Hs w M u n l[j] r[j]
 | [],[],_=>⟨rfl,fun j h=>by cases h⟩
 | a::l,b::r,k=>by
  obtain ⟨e,h⟩:=HsL.get k.2
  refine ⟨by simp [e],fun j h1 h2 => ?_⟩
  cases j with
  | zero=>exact k.1
  | succ j=>exact h j (by simpa using h1) (by simpa using h2)
 | [],_::_,k=>k.elim
 | _::_,[],k=>k.elim
theorem hs_v {u:Bool} {n:Nat→Prop} {x:Value} (hn:Ev n w):Hs w M u n (.v x) (.v x):=fun v h=>by
 cases h with
 | v _ h hw=>exact .v _ hn h hw
theorem hs_ev {u:Bool} {n:Nat→Prop} {x:Value}:Hs w M u n (.hue true n (.v x)) (.v x):=fun v h=>by
 cases h with
 | hue _ _ h=>cases h with|v _ hn h hw=>exact .v _ hn h hw
theorem hs_hue {u:Bool} {n:Nat→Prop} {x:Sx.D}:Hs w M u n (.hue u n x) x:=fun v h=>by
 cases h with
 | hue _ _ h=>exact h
theorem hsL_flat {u:Bool} {n:Nat→Prop} (hn:Ev n w):∀ {e:List Sx.D},flatL e=true→HsL w M u n e e
 | [],_=>trivial
 | .v x::l,h=>⟨hs_v hn,hsL_flat hn (by simpa [flatL] using h)⟩
 | .nil _::_,h|.emp _::_,h|.list _ _::_,h|.ref _::_,h|.clo _ _::_,h|.hue _ _ _::_,h=>by cases h
theorem hue_map {α:Type} {u:Bool} {n:Nat→Prop} {b off cap k len:Nat} {f g:α→List Sx.D} {l:List α} (h:Rep w M (.list k (l.map f)) (.slice (some ⟨b,off,none⟩) len cap)) (hl:∀ a∈l,HsL w M u n (f a) (g a)) (hne:l≠[]) (hn:¬ n b) (hf:u=true→∃ cs,CellsAt w b cs):Hue w M u n (.list k (l.map g)) (.slice (some ⟨b,off,none⟩) len cap):=by
 have hlen:(l.map f).length=(l.map g).length:=by rw [List.length_map,List.length_map]
 generalize hd:D.list k (l.map f)=d at h
 generalize hv:Value.slice (some ⟨b,off,none⟩) len cap=v at h
 cases h with
 | nil k' x c hm hx =>
  injection hd with _ e
  exact absurd (List.map_eq_nil_iff.1 e) hne
 | v x h hw=>cases hd
 | nl k=>cases hd
 | em k x c hm=>cases hd
 | ref vs hM hb hv hr=>cases hd
 | clo ps hr=>cases hd
 | hue u n h=>cases hd
 | @list b' off' cap' k' l' vs hc hm hM hb hk hv' hr =>
  injection hd with e1 e2
  subst e1 e2
  injection hv with e1 e2 e3
  injection e1 with e1
  injection e1 with e1 e4
  subst e1 e2 e3 e4
  rw [hlen]
  have hg:∀ i (h1:i<(l.map f).length) (h2:i<(l.map g).length),HsL w M u n (l.map f)[i] (l.map g)[i]:=fun i h1 h2=>by
   rw [List.getElem_map,List.getElem_map]
   exact hl _ (List.getElem_mem _)
  refine .list vs (by omega) hm hM hn hb hf (fun x hx => ?_) (fun i j hi hj=>hv' i j (by omega) hj) fun i j hi hj => ?_
  ·obtain ⟨i,hi,rfl⟩:=List.getElem_of_mem hx
   rw [← (hg i (by omega) hi).get.1]
   exact hk _ (List.getElem_mem _)
  ·have hi':i<(l.map f).length:=by omega
   have hw:=(hg i hi' hi).get
   exact hw.2 j (by rw [hw.1];exact hj) hj _ (hr i j hi' (by rw [hw.1];exact hj))
theorem row_hue {α:Type} {s k v0:Nat} {n:Nat→Prop} {u:Bool} {m:Nm} {f g:α→List Sx.D} {l:List α} {ρ:Nat→Nm} {v:Value} {M':Nat→Prop} (hv:∃ x,v=.slice x m.len m.cap∧(0<m.cap→x=some ⟨m.b,0,none⟩)) (hb:BlkR ρ w M' m (.row k (l.map f) v0)) (hM:∀ b,M b→M' b) (hnM:0<m.cap→¬ M m.b) (h3:0<m.cap→s≤m.b∧m.b<w.heap.size)
  (hs:l≠[]→∀ b,n b→b<s) (hl:Ev n w→∀ a∈l,HsL w M u n (f a) (g a)):Hue w M u n (.list k (l.map g)) v:=by
 have hr:=row_data (M':=M) hb hv (fun b _ h=>hM b h) hnM (fun h=>(h3 h).2)
 obtain ⟨x,rfl,hx⟩:=hv
 obtain ⟨⟨k1,k2,k3,k4,k5⟩,hreal⟩:=hb
 by_cases hne:l=[]
 ·subst hne
  have h0:m.len=0:=by rw [← k2];rfl
  rw [h0] at hr ⊢
  generalize hd:D.list k (([]:List α).map f)=d at hr
  generalize hv:Value.slice x 0 m.cap=v at hr
  cases hr with
  | nil k' x c hm hx=>injection hv with e1 e2 e3;subst e1 e3;exact .nil _ _ _ hm hx
  | v x h hw=>cases hd
  | nl k=>cases hd
  | em k x c hm=>cases hd
  | ref vs hM hb hv hr=>cases hd
  | clo ps hr=>cases hd
  | hue u n h=>cases hd
  | list vs hc hm hM hb hk hv' hr=>injection hd with e1 e2;subst e2;injection hv with e1 e2 e3;subst e1 e3;exact .nil _ _ _ hm (fun e=>by cases e)
 ·have hc:0<m.cap:=Nat.pos_of_ne_zero fun h=>hne (List.map_eq_nil_iff.1 (k3 h))
  have hx:=hx hc
  subst hx
  obtain ⟨h4,h5⟩:=h3 hc
  have:=hs hne
  obtain ⟨cs,hcs,_⟩:=hreal (by simpa [Blk.real] using hc)
  exact hue_map hr (hl fun b h=>by have:=this b h;omega) hne (fun h=>by have:=this _ h;omega) fun _=>⟨cs,hcs⟩
theorem hue_of_own {α:Type} {P:Program} {fn k:Nat} {n:Nat→Prop} {u:Bool} {args:List DC} {f g:α→List Sx.D} {l:List α} (h:FnOwn P fn args (ownL k (l.map f))) (hev:∀ w M vs,DCsR w M args vs→l≠[]→Ev n w) (hl:∀ w M,Ev n w→∀ a∈l,HsL w M u n (f a) (g a)):FnOK P fn args (.c (.one (.hue u n (.list k (l.map g))))):=by
 intro w M vs hM hvs
 obtain ⟨q,hg,hc⟩:=h w M vs hM hvs
 refine .inl ⟨q,hg,hc.mono ?_⟩
 rintro e w' ⟨v,m,rfl,hb,h1,h2,h3,h4,h5⟩
 refine ⟨v,rfl,.hue _ _ ?_,hb⟩
 have h4:AtR (fun _=>m) w' (fun b=>M b∨0<m.cap∧b=m.b) (.osl 0 0) v:=h4
 obtain ⟨_,_,_,k4⟩:=h4
 exact row_hue (s:=w.heap.size) (m:=m) (k4 h2.symm) h5 (fun b h=>.inl h) (fun h hm=>by have:=hM _ hm;have:=(h3 h).1;omega) h3 (hev w M vs hvs) fun hn=>hl w' M hn
theorem hue_far {u:Bool} {n:Nat→Prop} {d:Sx.D} {v:Value} (h:Hue w M u n d v):Rep w (fun b=>M b∨n b) d v:=by
 induction h with
 | v x hn h hw=>exact .v x h hw
 | nil k x c hm hx=>exact .nil k x c hm hx
 | list vs hc hm hM hn hb hf hk hv hr ih=>exact .list vs hc hm (fun h=>h.elim hM hn) hb hk hv ih
theorem far_hue {n:Nat→Prop} {k:Nat} {l:List (List Sx.D)} {v:Value} (h:Rep w (fun b=>M b∨n b) (.list k l) v) (he:Ev n w) (hl:∀ e∈l,flatL e=true):Hue w M false n (.list k l) v:=by
 generalize hd:D.list k l=d at h
 cases h with
 | nil k' x c hm hx=>injection hd with e1 e2;subst e1 e2;exact .nil _ _ _ hm hx
 | v x h hw=>cases hd
 | nl k=>cases hd
 | em k x c hm=>cases hd
 | ref vs hM hb hv hr=>cases hd
 | clo ps hr=>cases hd
 | hue u n h=>cases hd
 | @list b off cap k' l' vs hc hm hM hb hk hv hr =>
  injection hd with e1 e2
  subst e1 e2
  refine .list vs hc hm (fun h=>hM (.inl h)) (fun h=>hM (.inr h)) hb (fun e=>by cases e) hk hv fun i j hi hj => ?_
  have h1:=(hsL_flat (w:=w) (M:=fun b=>M b∨n b) (u:=false) (n:=n) he (hl _ (List.getElem_mem hi))).get.2 j hj hj _ (hr i j hi hj)
  exact h1.mono (.refl _ w) fun b _ h=>.inl h
end
theorem ty_okH (K hu:List Nat) (n:Nat→Prop):ΓOK Tryz.prog { ty:=Ty,K:=K,mu:=[],co:=[],me:=[],dm:=false,hu:=hu,hn:=n }:=ty_okK K [] [] []
theorem zh {n:Nat→Prop} {xs l':List (List Sx.D)} {q:List (List Sx.D)→Prop} (k:q l') (hr:HueR n xs l':=by assumption) (hl:xs.length≤1000000:=by first|assumption|omega):∃ l',(xs.length≤1000000∧HueR n xs l')∧q l':=⟨l',⟨hl,hr⟩,k⟩
end Go.Proofs.YtddbmpbihpkabaaGreat

namespace Go.Proofs.YtddbmpbihpkabaaGreat
open Go Go.RowKit
namespace Sx
variable {P:Program} {sz:Nat} {E:Env} {H:Hp}
def kpE (ks:List Nat):List Nat→Env→Env
 | _,[]=>[]
 | D,(t,x)::r=>match memB t D with
  | true=>kpE ks D r
  | false=>match memB t ks with|true=>(t,x)::kpE ks (t::D) r|false=>kpE ks (t::D) r
theorem look_kpE {ks:List Nat}:∀ {E:Env} {D:List Nat} {t:Nat} {x:SV},look (kpE ks D E) t=some x→t ∉ D∧look E t=some x
 | [],D,t,x,h=>by simp [kpE,look] at h
 | (u,y)::r,D,t,x,h=>by
  unfold kpE at h
  rw [look_cons]
  split at h
  ·rename_i hm
   obtain ⟨h1,h2⟩:=look_kpE h
   exact ⟨h1,by rw [if_neg (by rintro rfl;exact h1 (memB_iff.1 hm))];exact h2⟩
  ·rename_i hm
   have hm':u ∉ D:=fun h'=>by rw [memB_iff.2 h'] at hm;cases hm
   split at h
   ·rw [look_cons] at h
    split at h
    ·rename_i e
     injection h with h
     subst e h
     exact ⟨hm',by rw [if_pos rfl]⟩
    ·obtain ⟨h1,h2⟩:=look_kpE h
     refine ⟨fun h'=>h1 (List.mem_cons_of_mem _ h'),?_⟩
     rename_i e
     rw [if_neg e];exact h2
   ·obtain ⟨h1,h2⟩:=look_kpE h
    exact ⟨fun h'=>h1 (List.mem_cons_of_mem _ h'),by rw [if_neg (by rintro rfl;exact h1 (List.mem_cons_self ..))];exact h2⟩
theorem loop_keep (ks:List Nat) {dm:Bool} {body:Code} {k:Exit→Env→Hp→Prop} (h:frcEnv (kpE ks [] E) fun E1=>LoopP P sz dm body E1 H k):LoopP P sz dm body E H k :=
 ⟨fun C M0 w0 ρ a w Q hdm R hQ=>((frcEnv_iff _ _).1 h).run C M0 w0 ρ a w Q hdm (R.same (fun t x hx=>(look_kpE hx).2) fun _=>rfl) hQ⟩
end Sx
end Go.Proofs.YtddbmpbihpkabaaGreat

namespace Go.Proofs.YtddbmpbihpkabaaGreat
open Go Go.RowKit Go.Sort Sx
set_option maxHeartbeats 4000000 in
set_option maxRecDepth 100000 in
theorem growAk_run (n:Nat) (w:World) (h0:0<n) (h1:n≤1000000):Calls Tryz.prog 40 #[.slice none 0 0,.int .i64 n] w fun e w'=>∃ (G:Nat) (row:List Value),e=.returned (.slice (some ⟨w.heap.size,0,none⟩) 0 G)∧G≤9223372036854775807∧Below w.heap.size w w'∧w.heap.size<w'.heap.size∧row.length=G*7∧CellsAt w' w.heap.size row:=by
 obtain ⟨e,he,hsz,_,_,ti,z,hi0,hsz0,hz0,hzs,_,hby⟩:=(ty_ok 29 (.sl 7 true [.v (.int .u8 0),.v (.int .i64 0),.v (.int .i64 0),.v (.int .i64 0),.v (.int .i64 0),.v (.int .i64 0),.v (.int .i64 0)]) rfl).2.2.2
 have hee:e=51:=by
  have:=he.symm.trans Tryz.underlying29
  injection this with this;injection this
 subst hee
 have h48:n*ti.bytes≤281474976710656:=by
  have:n*ti.bytes≤1000000*65536:=Nat.mul_le_mul h1 hby
  omega
 have hrz:=fun ty=>Lib.run_append_nil_zeros (P:=Tryz.prog) w 29 3 ty 51 ti z .i64 .i64 Tryz.underlying29 Tryz.underlying3 hi0 hz0 n h0 (by omega) (by omega) h48
 have hG:n≤grownCap w n 0 51:=grownCap_ge w _ _ _
 have hG63:grownCap w n 0 51≤9223372036854775807:=by
  have:=grownCap_le_maxLen w n 0 51 (by unfold maxLen;omega)
  unfold maxLen at this
  omega
 generalize grownCap w n 0 51=G at *
 obtain ⟨ROW,hROW⟩:∃ ROW:Array Value,ROW=Builtin.zeroCells z.cells n++Builtin.zeroCells z.cells (G-n):=⟨_,rfl⟩
 rw [← hROW] at hrz
 have hRl:ROW.toList.length=G*7:=by
  rw [hROW]
  simp only [Array.toList_append,List.length_append,Array.length_toList,size_zeroCells,hzs]
  omega
 obtain ⟨W1,hW1⟩:∃ W1,W1=w.drew.alloc (.cells ROW 51):=⟨_,rfl⟩
 rw [← hW1] at hrz
 have c0:CellsAt W1 w.heap.size ROW.toList:=⟨51,by rw [hW1];exact (heap_alloc_new w.drew _)⟩
 have hB1:Below w.heap.size w W1:=by rw [hW1];exact below_drew_alloc w _
 have hs1:w.heap.size<W1.heap.size:=by rw [hW1];simp
 have FIN:Hid (Below w.heap.size w W1∧w.heap.size<W1.heap.size∧CellsAt W1 w.heap.size ROW.toList):=Lib.hid ⟨hB1,hs1,c0⟩
 have hw1:IntKind.i64.wrap (n:Int)=(n:Int):=by rw [IntKind.wrap_i64];omega
 have hp:(0:Int)<(n:Int):=by omega
 have hn:¬ ((n:Int)<0):=by omega
 have mixed:Tryz.prog.follows .mixedOrders=true:=by kernel_rfl
 clear hROW hW1 hB1 hs1 c0
 go_enter Tryz.func40,Tryz.ntmps40
 go_wp2_with (at_builtin;refine Lib.wpList_append_run _ rfl _ _ _ _ rfl _ _ rfl rfl _ _ (hrz _) ?_)
 go_ret
 exact ⟨G,rfl,hG63,FIN.out.1,FIN.out.2.1,ROW.toList,hRl,FIN.out.2.2⟩
set_option maxHeartbeats 4000000 in
set_option maxRecDepth 100000 in
theorem growAk_run0 (w:World):Calls Tryz.prog 40 #[.slice none 0 0,.int .i64 0] w fun e w'=>e=.returned (.slice none 0 0)∧w'=w:=by
 have mixed:Tryz.prog.follows .mixedOrders=true:=by kernel_rfl
 go_enter Tryz.func40,Tryz.ntmps40
 go_wp2
 go_ret
 exact ⟨rfl,rfl⟩
theorem growAk_own (n:Nat) (h1:n≤1000000):FnOwn Tryz.prog 40 [.one (.v (.slice none 0 0)),.one (i64 n)] (ownL 7 []):=by
 intro w M vs hM hd
 match vs,hd with
 | [v1,v2],hd =>
  have k1:Rep w M (.v (.slice none 0 0)) v1:=hd.1
  have k2:Rep w M (.v (.int .i64 n)) v2:=hd.2.1
  cases k1
  cases k2
  rcases Nat.eq_zero_or_pos n with rfl|h0
  ·refine ⟨40,Tryz.call40 _ _,(growAk_run0 w).mono ?_⟩
   rintro e w' ⟨rfl,rfl⟩
   exact ⟨_,⟨false,0,0,0,0⟩,rfl,Below.refl _ _,rfl,rfl,fun h=>absurd h (Nat.lt_irrefl _),⟨rfl,rfl,Nat.le_refl _,fun _=>⟨none,rfl,fun h=>absurd h (Nat.lt_irrefl _)⟩⟩,⟨by simp,rfl,fun _=>rfl,rfl,rfl⟩,fun h=>by simp [Blk.real] at h⟩
  ·refine ⟨40,Tryz.call40 _ _,(growAk_run n w h0 h1).mono ?_⟩
   rintro e w' ⟨G,row,rfl,hG,hB,hs,hl,hc⟩
   exact ⟨_,⟨false,w.heap.size,G,0,0⟩,rfl,hB,rfl,rfl,fun _=>⟨Nat.le_refl _,hs⟩,⟨rfl,rfl,Nat.le_refl _,fun _=>⟨_,rfl,fun _=>rfl⟩⟩,⟨by simp,rfl,fun _=>rfl,rfl,rfl⟩,fun _=>⟨row,hc,Nat.zero_le _,hG,hl,[],row,rfl,trivial⟩⟩
abbrev lol (L:List (List (List D))):D:=.list 1 (L.map fun x=>[.list 7 x])
theorem lol_get {L:List (List (List D))} {i:Nat} (h:i<L.length):(L.map fun x=>[D.list 7 x])[((i:Nat):Int).toNat]? = some [.list 7 L[i]]:=by
 rw [Int.toNat_natCast,List.getElem?_map,List.getElem?_eq_getElem h];rfl
theorem flat_succ {α:Type} {L:List (List α)} {i:Nat} (h:i<L.length):(L.take (i+1)).flatten=(L.take i).flatten++L[i]:=by
 rw [List.take_succ_eq_append_getElem h,List.flatten_append];simp
theorem flat_le {α:Type} (L:List (List α)) (i:Nat):(L.take i).flatten.length≤L.flatten.length:=by
 conv=>rhs;rw [← List.take_append_drop i L,List.flatten_append,List.length_append]
 omega
set_option maxRecDepth 100000 in
set_option maxHeartbeats 4000000 in
theorem catAk_own (L:List (List (List D))) (h1:L.flatten.length≤1000000) (h2:L.length≤1000000):FnOwn Tryz.prog 25 [.one (lol L)] (ownL 7 L.flatten):=by
 have hL:(L.map fun x=>[D.list 7 x]).length=L.length:=List.length_map ..
 refine fn_own (by kernel_rfl) (ty_okK [24,33] [] [] []) Tryz.func25 rfl (fun _ _=>Tryz.call25 _ _) rfl ?_
 intro hw
 clear hw
 repeat' ((conv=>whnf);first|(with_reducible first|refine br_t ?_|refine br_f ?_|refine za ?_|refine zg ?_|refine zo ?_)|rw [hL]|refine zp ?_|refine zq ?_|(with_reducible first|refine bc (fun h => ?_) (fun h => ?_)|refine zt ?_|refine zf ?_|refine br_i (fun h => ?_) (fun h => ?_))|refine zg ?_|refine zi ?_|refine zb ?_|refine zl ?_)
 refine loop_J (by kernel_rfl) (ty_okK [24,33] [] [] []) (σ:=Nat) (fun i=>[(11,sV (.int .i64 i)),(3,sV (.int .i64 ((L.take i).flatten.length:Nat)))]) (fun _=>[]) (fun i=>i≤L.length) (fun i=>L.length-i) 0 (Nat.zero_le _) ?_ ?_
 ·(conv=>whnf);exact zent
 intro i hi
 rcases Nat.lt_or_ge i L.length with hlt|hge
 ·have hel:=lol_get hlt
  have e1:=congrArg List.length (flat_succ hlt)
  rw [List.length_append] at e1
  have e2:=flat_le L (i+1)
  generalize (L.take i).flatten.length=c at *
  obtain ⟨d,hdd⟩:∃ d,d=(L.take (i+1)).flatten.length:=⟨_,rfl⟩
  rw [← hdd] at e1 e2
  have hwr:IntKind.i64.wrap ((c:Int)+(L[i].length:Int))=(d:Int):=by rw [IntWalk.i64_in _ (by omega)];omega
  generalize L[i]=x at *
  repeat' ((conv=>whnf);first|(with_reducible first|refine br_t ?_|refine br_f ?_|refine za ?_|refine zg ?_|refine zo ?_)|rw [hL]|rw [hwr]|refine zp ?_|refine zq ?_|(with_reducible first|refine bc (fun h => ?_) (fun h => ?_)|refine zt ?_|refine zf ?_|refine br_i (fun h => ?_) (fun h => ?_))|refine zg ?_|refine zi ?_|refine zb ?_|refine zl ?_)
  all_goals conv=>whnf
  refine ⟨i+1,by omega,?_,by omega⟩
  (conv=>whnf);exact zent
 ·obtain rfl:i=L.length:=by omega
  have HG:=growAk_own L.flatten.length h1
  have eF:(L.take L.length).flatten=L.flatten:=by rw [List.take_length]
  rw [eF]
  repeat' ((conv=>whnf);first|(with_reducible first|refine br_t ?_|refine br_f ?_|refine za ?_|refine zg ?_|refine zo ?_)|rw [hL]|refine zp ?_|refine zq ?_|(with_reducible first|refine bc (fun h => ?_) (fun h => ?_)|refine zt ?_|refine zf ?_|refine br_i (fun h => ?_) (fun h => ?_))|refine zg ?_|refine zi ?_|refine zb ?_|refine zl ?_)
  refine loop_keep [2,6,25,26,27] ?_
  conv=>whnf
  refine loop_J (by kernel_rfl) (ty_okK [24,33] [] [] []) (σ:=Nat) (fun i=>[(27,sV (.int .i64 i)),(6,.c (.at (.osl 24 0)))]) (fun i=>[(24,.row 7 (L.take i).flatten 0)]) (fun i=>i≤L.length) (fun i=>L.length-i) 0 (Nat.zero_le _) ?_ ?_
  ·(conv=>whnf);exact zent
  intro i hi
  rcases Nat.lt_or_ge i L.length with hlt|hge
  ·have hel:=lol_get hlt
   have hs:=(flat_succ hlt).symm
   have e1:=congrArg List.length hs
   rw [List.length_append] at e1
   have e2:=flat_le L (i+1)
   generalize (L.take i).flatten=c at *
   generalize L[i]=x at *
   repeat' ((conv=>whnf);first|(with_reducible first|refine br_t ?_|refine br_f ?_|refine za ?_|refine zg ?_|refine zo ?_)|rw [hL]|refine zp ?_|refine zq ?_|(with_reducible first|refine bc (fun h => ?_) (fun h => ?_)|refine zt ?_|refine zf ?_|refine br_i (fun h => ?_) (fun h => ?_))|refine zg ?_|refine zi ?_|refine zb ?_|refine zl ?_)
   all_goals conv=>whnf
   refine ⟨i+1,by omega,?_,by omega⟩
   (conv=>whnf);refine ⟨by repeat' (first|with_reducible exact zE0|with_reducible refine zE1 ?_ ?_|rfl|assumption|((exact congrArg (fun x=>some (Blk.row 7 x 0)) hs))|exact zi1|exact zb1),by repeat' (first|with_reducible exact zH0|with_reducible refine zH1 ?_ ?_|rfl|assumption|((exact congrArg (fun x=>some (Blk.row 7 x 0)) hs))),rfl⟩
  ·obtain rfl:i=L.length:=by omega
   rw [List.take_length]
   repeat' ((conv=>whnf);first|(with_reducible first|refine br_t ?_|refine br_f ?_|refine za ?_|refine zg ?_|refine zo ?_)|rw [hL]|refine zp ?_|refine zq ?_|(with_reducible first|refine bc (fun h => ?_) (fun h => ?_)|refine zt ?_|refine zf ?_|refine br_i (fun h => ?_) (fun h => ?_))|refine zg ?_|refine zi ?_|refine zb ?_|refine zl ?_)
   all_goals conv=>whnf
   exact .inl ⟨24,0,_,rfl,rfl,rfl⟩
end Go.Proofs.YtddbmpbihpkabaaGreat

namespace Go.Proofs.YtddbmpbihpkabaaGreat
open Go.RowKit Go.Sort Sx
set_option maxRecDepth 2000
theorem eqPt_fn (a b:List Pt):FnOK Tryz.prog 24 [.one (pts a),.one (pts b)] (.c (.one (bol (decide (a=b))))):=by
 refine fn_ok (by kernel_rfl) ty_ok Tryz.func24 rfl (fun _ _=>Tryz.call24 _ _) rfl ?_
 intro hw
 simp only [WDCs,WDC,WDs] at hw
 obtain ⟨w1,_⟩:=wd_pts hw.1
 obtain ⟨w2,_⟩:=wd_pts hw.2.1
 clear hw
 by_cases h0:a.length=b.length
 ·repeat' ((conv=>whnf);first|(with_reducible first|refine br_t ?_|refine br_f ?_|refine za ?_|refine zg ?_)|rw [List.length_map]|refine zp ?_|refine zq ?_|(with_reducible first|refine bc (fun h => ?_) (fun h => ?_)|refine zt ?_|refine zf ?_|refine br_i (fun h => ?_) (fun h => ?_)|refine xi (pv_bool fun _=>nev49 _ _ _ _ _ _ _ _ _) ?_)|refine zg ?_|refine zi ?_|refine zb ?_)
  refine loop_J (by kernel_rfl) ty_ok (σ:=Nat) (fun i=>[(13,sV (.int .i64 i))]) (fun _=>[]) (fun i=>i≤a.length∧a.take i=b.take i) (fun i=>a.length-i) 0 ⟨by omega,rfl⟩ ?_ ?_
  ·(conv=>whnf);exact zent
  rintro i ⟨hi,hI⟩
  rcases Nat.lt_or_ge i a.length with hlt|hge
  ·have hb:i<b.length:=by omega
   have he1:=pts_get hlt
   have he2:=pts_get hb
   by_cases hc:a[i]=b[i]
   ·have hq:=Pt.eq_iff.1 hc
    repeat' ((conv=>whnf);first|(with_reducible first|refine br_t ?_|refine br_f ?_|refine za ?_|refine zg ?_)|rw [List.length_map]|refine zp ?_|refine zq ?_|(with_reducible first|refine bc (fun h => ?_) (fun h => ?_)|refine zt ?_|refine zf ?_|refine br_i (fun h => ?_) (fun h => ?_)|refine xi (pv_bool fun _=>nev49 _ _ _ _ _ _ _ _ _) ?_)|refine zg ?_|refine zi ?_|refine zb ?_)
    all_goals conv=>whnf
    refine ⟨i+1,⟨by omega,take_succ_eq hI hlt hb hc⟩,?_,by omega⟩
    (conv=>whnf);exact zent
   ·have hq:=mt Pt.eq_iff.2 hc
    rw [decide_eq_false (ne_of_get hlt hb hc)]
    repeat' ((conv=>whnf);first|(with_reducible first|refine br_t ?_|refine br_f ?_|refine za ?_|refine zg ?_)|rw [List.length_map]|refine zp ?_|refine zq ?_|(with_reducible first|refine bc (fun h => ?_) (fun h => ?_)|refine zt ?_|refine zf ?_|refine br_i (fun h => ?_) (fun h => ?_)|refine xi (pv_bool fun _=>nev49 _ _ _ _ _ _ _ _ _) ?_)|refine zg ?_|refine zi ?_|refine zb ?_)
    all_goals conv=>whnf
    all_goals rfl
  ·rw [decide_eq_true (take_all_eq hI h0 hge)]
   repeat' ((conv=>whnf);first|(with_reducible first|refine br_t ?_|refine br_f ?_|refine za ?_|refine zg ?_)|rw [List.length_map]|refine zp ?_|refine zq ?_|(with_reducible first|refine bc (fun h => ?_) (fun h => ?_)|refine zt ?_|refine zf ?_|refine br_i (fun h => ?_) (fun h => ?_)|refine xi (pv_bool fun _=>nev49 _ _ _ _ _ _ _ _ _) ?_)|refine zg ?_|refine zi ?_|refine zb ?_)
   all_goals conv=>whnf
   all_goals rfl
 ·rw [decide_eq_false (fun h=>h0 (congrArg List.length h))]
  repeat' ((conv=>whnf);first|(with_reducible first|refine br_t ?_|refine br_f ?_|refine za ?_|refine zg ?_)|rw [List.length_map]|refine zp ?_|refine zq ?_|(with_reducible first|refine bc (fun h => ?_) (fun h => ?_)|refine zt ?_|refine zf ?_|refine br_i (fun h => ?_) (fun h => ?_)|refine xi (pv_bool fun _=>nev49 _ _ _ _ _ _ _ _ _) ?_)|refine zg ?_|refine zi ?_|refine zb ?_)
  all_goals conv=>whnf
  all_goals rfl
theorem clonePt_fn (l:List (List D)) (hl:l.length≤1000000):FnOK Tryz.prog 34 [.one (.list 3 l)] (.c (.one (.list 3 l))):=ok_of_own (clonePt_own l hl)
structure Pa where
 n:Int
 d:Int
 ms:List Md
 deriving DecidableEq,Inhabited
abbrev mos (l:List Md):D:=.list 3 (l.map Md.c)
abbrev Pa.dc (p:Pa):DC:=.agg [i64 p.n,i64 p.d,mos p.ms]
end Go.Proofs.YtddbmpbihpkabaaGreat
