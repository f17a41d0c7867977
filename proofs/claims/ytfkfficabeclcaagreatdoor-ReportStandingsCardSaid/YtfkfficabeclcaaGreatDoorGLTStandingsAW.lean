import Derived.Test.YtfkfficabeclcaaGreatDoorGLTStandingsAV
import Derived.Test.YtfkfficabeclcaaGreatDoorGLTStandingsAR
import Derived.Test.YtfkfficabeclcaaGreatDoorGLTStandingsAT
import Derived.Lib.AtoiTie
import Derived.Lib.AtoiAllCases
set_option linter.all false
namespace Go.Proofs.YtfkfficabeclcaaGreatDoor
open Go Go.RowKit Go.Sort Sx
abbrev allM (l:List Pt):List Mt:=msrt (outs (pairsOf l))
theorem pairs_lt:∀ {l:List Pt} {p q:Pt},incr l=true→(p,q)∈pairsOf l→p.id<q.id
 | [],p,q,_,h=>by simp [pairsOf] at h
 | x::l,p,q,hs,h=>by
  simp only [pairsOf,List.mem_append,List.mem_map,Prod.mk.injEq] at h
  rcases h with ⟨y,hy,rfl,rfl⟩|h
  ·obtain ⟨k,hk,rfl⟩:=List.getElem_of_mem hy
   have:=incr_lt hs (k+1) 0 (by simpa using hk) (by omega)
   simpa using this
  ·exact pairs_lt (incr_tail hs) h
theorem meet_cases {p q:Pt} (h1:p.chk=0) (h2:q.chk=0) (hne:p.id≠q.id):(p.b=q.b∧meet1 (p,q)=none) ∨
  (p.b≠q.b∧meet1 (p,q)=some ⟨(makeV (p.a-q.a) (q.b-p.b)).1,(makeV (p.a-q.a) (q.b-p.b)).2.1,p.id,q.id⟩∧chk (makeV (p.a-q.a) (q.b-p.b)).1 (makeV (p.a-q.a) (q.b-p.b)).2.1=0 ∧
   1≤(makeV (p.a-q.a) (q.b-p.b)).2.1∧(makeV (p.a-q.a) (q.b-p.b)).2.1≤2097152 ∧ -2097152≤(makeV (p.a-q.a) (q.b-p.b)).1∧(makeV (p.a-q.a) (q.b-p.b)).1≤2097152):=by
 have ht:two02 p.id p.a p.b q.id q.a q.b 0 1=0:=by
  unfold two02
  rw [if_pos ⟨h1,h2,by decide⟩,if_neg hne]
 have hm:meetV p.id p.a p.b q.id q.a q.b=if p.b=q.b then (0,0,6) else makeV (p.a-q.a) (q.b-p.b):=by unfold meetV;rw [if_pos ht]
 unfold meet1
 rw [hm]
 by_cases hb:p.b=q.b
 ·refine .inl ⟨hb,?_⟩
  simp [hb]
 ·obtain ⟨n,m,e,c1,c2,c3,c4,c5,_⟩:=meet_e h1 h2 hb
  refine .inr ⟨hb,?_,?_⟩
  ·simp [hb,e]
  ·rw [e];exact ⟨c1,c2,c3,c4,c5⟩
theorem outs_ok {l:List Pt} (h:fchk l=0):∀ m∈outs (pairsOf l),m.ok∧m.d≤2097152 ∧ -2097152≤m.n∧m.n≤2097152:=fun m hm=>by
 obtain ⟨_,k2,k3⟩:=fchk_ok h
 obtain ⟨⟨p,q⟩,h1,h2⟩:=List.mem_filterMap.1 hm
 obtain ⟨hp,hq⟩:=pairs_mem h1
 have hlt:=pairs_lt k3 h1
 have cp:=cpt_ok (k2 p hp)
 have cq:=cpt_ok (k2 q hq)
 rcases meet_cases (k2 p hp) (k2 q hq) (by omega) with ⟨_,e⟩|⟨_,e,c1,c2,c3,c4,c5⟩
 ·rw [e] at h2;cases h2
 ·rw [e] at h2
  injection h2 with h2
  subst h2
  exact ⟨⟨c1,by simp only;omega,by simp only;omega,by simp only;omega,by simp only;omega⟩,c3,c4,c5⟩
theorem outs_len2 {l:List Pt} (hl:l.length≤64):(outs (pairsOf l)).length≤4096:=by
 have h:=pairs_len l
 have:l.length*l.length≤64*64:=Nat.mul_le_mul hl hl
 exact Nat.le_trans (outs_len _) (by omega)
theorem mall_fn {l:List Pt} (h:fchk l=0):FnOK Tryz.prog 156 [fld l] (.c (.one (mts (allM l)))):=by
 refine fun w M vs hM hvs=>.inl ⟨156,Tryz.call156 _ _,?_⟩
 match vs,hvs with
 | [u],⟨⟨us,e,hus⟩,_⟩ =>
  subst e
  match us,hus with
  | [fv],⟨hfv,_⟩ =>
   exact (callsIn_wide.1 (mall_in 4 l fv w hM.gd M hM.lt hfv (fchk_ok h).1 (fun m hm=>(outs_ok h m hm).1) (by omega))).mono fun e w' ⟨v,h1,h2,h3⟩=>⟨v,h1,h2,h3⟩
theorem msrt_perm (l:List Mt):(msrt l).Perm l:=List.mergeSort_perm _ _
theorem msrt_mem {l:List Mt} {m:Mt}:m∈msrt l↔m∈l:=(msrt_perm l).mem_iff
theorem msrt_len (l:List Mt):(msrt l).length=l.length:=(msrt_perm l).length_eq
theorem mlt_asymm {a b:Mt} (h1:mlt a b) (h2:mlt b a):False:=mlt_irrefl a (mlt_trans h1 h2)
theorem mlt_neg {a b c:Mt} (h1:¬ mlt b a) (h2:¬ mlt c b):¬ mlt c a:=fun h=>by
 rcases mlt_tri a b with k|k|⟨e1,e2,e3⟩
 ·exact h2 (mlt_trans h k)
 ·exact h1 k
 ·apply h2
  unfold mlt at h ⊢
  rw [← e1,← e2,← e3];exact h
theorem msrt_sorted (l:List Mt):(msrt l).Pairwise fun a b=>¬ mlt b a:=by
 have:=List.pairwise_mergeSort (le:=fun x y:Mt => !decide (mlt y x)) (fun a b c h1 h2=>by
  simp only [Bool.not_eq_true',decide_eq_false_iff_not] at *
  exact mlt_neg h1 h2) (fun a b=>by
  simp only [Bool.or_eq_true,Bool.not_eq_true',decide_eq_false_iff_not]
  by_cases h:mlt b a
  ·exact .inr fun k=>mlt_asymm h k
  ·exact .inl h) l
 refine this.imp fun {a b} h => ?_
 simpa using h
theorem allM_asc {l:List Pt} (h:fchk l=0):Asc (allM l):=by
 refine ⟨fun i hi=>(outs_ok h _ (msrt_mem.1 (List.getElem_mem hi))).1.1,fun j i hj hij => ?_⟩
 have:=List.pairwise_iff_getElem.1 (msrt_sorted (outs (pairsOf l))) i j (Nat.lt_trans hij hj) hj hij
 unfold mlt at this
 exact Rat.not_lt.1 fun k=>this (.inl k)
theorem bcnt_le:∀ (l:List Mt) (n e:Int),bcnt l n e≤l.length
 | [],_,_=>Nat.le_refl _
 | m::l,n,e=>by
  have:=bcnt_le l n e
  unfold bcnt;split<;>simp<;>omega
theorem bcnt_lt:∀ {l:List Mt} {n e:Int} {k:Nat} (h:k<l.length),k<bcnt l n e→¬ n*l[k].d<l[k].n*e
 | m::l,n,e,k,h,hk=>by
  unfold bcnt at hk
  split at hk
  ·omega
  ·rename_i hc
   cases k with
   | zero=>exact hc
   | succ k=>simpa using bcnt_lt (l:=l) (by simpa using h) (by omega)
theorem bcnt_at:∀ {l:List Mt} {n e:Int} (h:bcnt l n e<l.length),n*l[bcnt l n e].d<l[bcnt l n e].n*e
 | m::l,n,e,h=>by
  by_cases hc:n*m.d<m.n*e
  ·have e0:bcnt (m::l) n e=0:=by unfold bcnt;rw [if_pos hc]
   simp only [e0];exact hc
  ·have e0:bcnt (m::l) n e=bcnt l n e+1:=by rw [bcnt,if_neg hc]
   simp only [e0,List.getElem_cons_succ]
   exact bcnt_at (by rw [e0] at h;simpa using h)
end Go.Proofs.YtfkfficabeclcaaGreatDoor

namespace Go.Proofs.YtfkfficabeclcaaGreatDoor
open Go Go.RowKit Go.Sort Sx
set_option maxRecDepth 2000
structure Rp where
 e:Int
 i:Int
 j:Int
 n:Int
 d:Int
 ms:List Mt
 deriving DecidableEq,Inhabited
def Rp.c (r:Rp):List D:=[i64 r.e,i64 r.i,i64 r.j,i64 r.n,i64 r.d,mts r.ms]
abbrev Rp.dc (r:Rp):DC:=.agg [i64 r.e,i64 r.i,i64 r.j,i64 r.n,i64 r.d,mts r.ms]
end Go.Proofs.YtfkfficabeclcaaGreatDoor

namespace Go.Proofs.YtfkfficabeclcaaGreatDoor
open Go.RowKit Go.Sort Sx
theorem rsub_fn (p q r t:Int):FnOK Tryz.prog 118 (rat2 p q r t) (ret3 (subV p q r t)):=by
 refine fn_of_calls (fun _ _=>Tryz.call118 _ _) rfl rfl (fun h => ?_) (fun h w => ?_)
 ·simp only [WDV,WDCs,WDC,WDs,wd_i64,and_true]
  have:=subV_rng p q r t
  omega
 ·obtain ⟨⟨_,_,_,_⟩,_,_,_,_⟩:=wd2 h
  exact rsub_any p q r t w (by omega) (by omega) (by omega) (by omega) (by omega) (by omega) (by omega) (by omega)
theorem rat_eq {a b c d:Int} (h1:a=c) (h2:b=d):DV.c (.agg [i64 a,i64 b])=.c (rat c d):=by rw [h1,h2]
theorem roPlace_fn {p:Pt} {n m:Int} (hp:p.chk=0) (ht:askd n m=0):FnOK Tryz.prog 110 [p.dc,rat n m] (.c (rat (plc p n m).1 (plc p n m).2)):=by
 refine fn_ok (by kernel_rfl) ty_ok Tryz.func110 rfl (fun _ _=>Tryz.call110 _ _) rfl ?_
 intro hw
 clear hw
 have H:=kkAt_fn p.id p.a p.b n m
 rw [(plc_ok hp ht).1] at H
 exact zw
theorem roDistance_fn {p q:Pt} {n m:Int} (hp:p.chk=0) (hq:q.chk=0) (ht:askd n m=0):FnOK Tryz.prog 167 [p.dc,q.dc,rat n m] (.c (rat (dst p q n m).1 (dst p q n m).2)):=by
 refine fn_ok (by kernel_rfl) ty_ok Tryz.func167 rfl (fun _ _=>Tryz.call167 _ _) rfl ?_
 intro hw
 clear hw
 have H1:=roPlace_fn hp ht
 have H2:=roPlace_fn hq ht
 obtain ⟨s,e1,e2,e3,e4,e5,e6,e7⟩:=dst_ok hp hq ht
 have H3:=rsub_fn (plc p n m).1 (plc p n m).2 (plc q n m).1 (plc q n m).2
 rw [e1] at H3
 simp only [ret3] at H3
 clear e1
 generalize (dst p q n m).1=x at *
 generalize (dst p q n m).2=y at *
 rcases e2 with ⟨e2,e8⟩|⟨e2,e8⟩
 all_goals
  repeat' ((conv=>whnf);first|(with_reducible first|refine br_t ?_|refine br_f ?_|refine za ?_|refine zg ?_)|refine zp ?_|refine zq ?_|(with_reducible first|refine bc (fun h => ?_) (fun h => ?_)|refine zt ?_|refine zf ?_|refine br_i (fun h => ?_) (fun h => ?_))|refine zg ?_|refine zi ?_|refine zb ?_)
  all_goals conv=>whnf
  all_goals
   refine rat_eq ?_ rfl
   (first|omega|(rw [IntWalk.i64_in _ (by omega)];omega)|(simp;done))
set_option maxHeartbeats 2000000 in
theorem roPair_fn {l:List Pt} {n m:Int} (hl:∀ p∈l,p.chk=0) (ht:askd n m=0) (h2:2≤l.length) (h3:l.length≤1000000) :
  FnOK Tryz.prog 111 [fld l,rat n m] (.tup [.one (i64 (l[(pairC l n m).1]?.getD default).id),.one (i64 (l[(pairC l n m).2.1]?.getD default).id),rat (pairC l n m).2.2.1 (pairC l n m).2.2.2]):=by
 refine fn_ok (by kernel_rfl) ty_ok Tryz.func111 rfl (fun _ _=>Tryz.call111 _ _) rfl ?_
 intro hw
 clear hw
 have hel0:=pts_get (l:=l) (i:=0) (by omega)
 have hel1:=pts_get (l:=l) (i:=1) (by omega)
 have H1:=roDistance_fn (hl _ (List.getElem_mem (show 0<l.length by omega))) (hl _ (List.getElem_mem (show 1<l.length by omega))) ht
 obtain ⟨_,_,_,d1,d2,d3,d4,d5⟩:=dst_ok (hl _ (List.getElem_mem (show 0<l.length by omega))) (hl _ (List.getElem_mem (show 1<l.length by omega))) ht
 have hP:pairC l n m=outerC n m l 0 (0,1,(dst l[0] l[1] n m).1,(dst l[0] l[1] n m).2):=by
  rcases l with _|⟨p,_|⟨q,l⟩⟩
  ·simp at h2
  ·simp at h2
  ·exact pairC_ref (by show (dst p q n m).2≠0;have:1≤(dst p q n m).2:=d2;omega)
 repeat' ((conv=>whnf);first|(with_reducible first|refine br_t ?_|refine br_f ?_|refine za ?_|refine zg ?_)|rw [List.length_map]|refine zp ?_|refine zq ?_|(with_reducible first|refine bc (fun h => ?_) (fun h => ?_)|refine zt ?_|refine zf ?_|refine br_i (fun h => ?_) (fun h => ?_))|refine zg ?_|refine zi ?_|refine zb ?_)
 clear H1 hel0 hel1
 have hP2:=pairC_ok hl ht h2
 refine loop_J (by kernel_rfl) ty_ok (σ:=Nat × CSt) (fun x=>[(10,sV (.int .i64 x.1)),(7,sV (.int .i64 x.2.1)),(8,sV (.int .i64 x.2.2.1))]) (fun x=>[(9,.own [.d (i64 x.2.2.2.1),.d (i64 x.2.2.2.2)])])
  (fun x=>x.1≤l.length∧cgood l x.2∧outerC n m (l.drop x.1) x.1 x.2=pairC l n m) (fun x=>l.length-x.1) (0,0,1,(dst l[0] l[1] n m).1,(dst l[0] l[1] n m).2)
  ⟨by omega,⟨d1,d2,d3,d4,d5,by show 0<l.length;omega,by show 1<l.length;omega⟩,hP.symm⟩ ?_ ?_
 ·(conv=>whnf);exact zent
 rintro ⟨a,s⟩ ⟨k1,k2,k3⟩
 simp only at k1 k2 k3
 rcases Nat.lt_or_ge a l.length with hlt|hge
 ·rw [outerC_lt hlt] at k3
  repeat' ((conv=>whnf);first|(with_reducible first|refine br_t ?_|refine br_f ?_|refine za ?_|refine zg ?_)|rw [List.length_map]|refine zp ?_|refine zq ?_|(with_reducible first|refine bc (fun h => ?_) (fun h => ?_)|refine zt ?_|refine zf ?_|refine br_i (fun h => ?_) (fun h => ?_))|refine zg ?_|refine zi ?_|refine zb ?_)
  refine loop_J (by kernel_rfl) ty_ok (σ:=Nat × CSt) (fun x=>[(11,sV (.int .i64 x.1)),(7,sV (.int .i64 x.2.1)),(8,sV (.int .i64 x.2.2.1))]) (fun x=>[(9,.own [.d (i64 x.2.2.2.1),.d (i64 x.2.2.2.2)])])
   (fun x=>x.1≤l.length∧cgood l x.2∧innerC n m l[a] a (l.drop x.1) x.1 x.2=innerC n m l[a] a (l.drop (a+1)) (a+1) s) (fun x=>l.length-x.1) (a+1,s) ⟨by show _≤_;omega,k2,rfl⟩ ?_ ?_
  ·(conv=>whnf);exact zent
  rintro ⟨b,t⟩ ⟨g1,g2,g3⟩
  simp only at g1 g2 g3
  rcases Nat.lt_or_ge b l.length with hblt|hbge
  ·have hela:=pts_get hlt
   have helb:=pts_get hblt
   have H1:=roDistance_fn (hl _ (List.getElem_mem hlt)) (hl _ (List.getElem_mem hblt)) ht
   have g4:=cgood_upd (.inr g2) hl ht hlt hblt
   rw [innerC_lt hblt] at g3
   obtain ⟨c1,c2,c3,c4,c5,c6,c7⟩:=g2
   have H2:=rcompare_fn (dst l[a] l[b] n m).1 (dst l[a] l[b] n m).2 t.2.2.1 t.2.2.2
   obtain ⟨_,_,_,d1,d2,d3,d4,d5⟩:=dst_ok (hl _ (List.getElem_mem hlt)) (hl _ (List.getElem_mem hblt)) ht
   by_cases hc:(dst l[a] l[b] n m).1*t.2.2.2<t.2.2.1*(dst l[a] l[b] n m).2
   ·have e:cupd t a b (dst l[a] l[b] n m)=(a,b,(dst l[a] l[b] n m).1,(dst l[a] l[b] n m).2):=if_pos (.inr hc)
    have e2:cmpN ((dst l[a] l[b] n m).1*t.2.2.2) (t.2.2.1*(dst l[a] l[b] n m).2) = -1:=if_pos hc
    rw [e] at g3 g4
    rw [e2] at H2
    repeat' ((conv=>whnf);first|(with_reducible first|refine br_t ?_|refine br_f ?_|refine za ?_|refine zg ?_)|rw [List.length_map]|refine zp ?_|refine zq ?_|(with_reducible first|refine bc (fun h => ?_) (fun h => ?_)|refine zt ?_|refine zf ?_|refine br_i (fun h => ?_) (fun h => ?_))|refine zg ?_|refine zi ?_|refine zb ?_)
    all_goals conv=>whnf
    refine ⟨(b+1,a,b,(dst l[a] l[b] n m).1,(dst l[a] l[b] n m).2),⟨by show _≤_;omega,g4,g3⟩,?_,by show _-_<_-_;omega⟩
    (conv=>whnf);exact zent
   ·have e:cupd t a b (dst l[a] l[b] n m)=t:=if_neg (by omega)
    have e2:0≤cmpN ((dst l[a] l[b] n m).1*t.2.2.2) (t.2.2.1*(dst l[a] l[b] n m).2):=by unfold cmpN;rw [if_neg hc];split<;>omega
    rw [e] at g3
    generalize cmpN ((dst l[a] l[b] n m).1*t.2.2.2) (t.2.2.1*(dst l[a] l[b] n m).2)=z at H2 e2
    repeat' ((conv=>whnf);first|(with_reducible first|refine br_t ?_|refine br_f ?_|refine za ?_|refine zg ?_)|rw [List.length_map]|refine zp ?_|refine zq ?_|(with_reducible first|refine bc (fun h => ?_) (fun h => ?_)|refine zt ?_|refine zf ?_|refine br_i (fun h => ?_) (fun h => ?_))|refine zg ?_|refine zi ?_|refine zb ?_)
    all_goals conv=>whnf
    refine ⟨(b+1,t),⟨by show _≤_;omega,⟨c1,c2,c3,c4,c5,c6,c7⟩,g3⟩,?_,by show _-_<_-_;omega⟩
    (conv=>whnf);exact zent
  ·rw [innerC_ge hbge] at g3
   rw [← g3] at k3
   repeat' ((conv=>whnf);first|(with_reducible first|refine br_t ?_|refine br_f ?_|refine za ?_|refine zg ?_)|rw [List.length_map]|refine zp ?_|refine zq ?_|(with_reducible first|refine bc (fun h => ?_) (fun h => ?_)|refine zt ?_|refine zf ?_|refine br_i (fun h => ?_) (fun h => ?_))|refine zg ?_|refine zi ?_|refine zb ?_)
   all_goals conv=>whnf
   refine ⟨(a+1,t),⟨by show _≤_;omega,g2,k3⟩,?_,by show _-_<_-_;omega⟩
   (conv=>whnf);exact zent
 ·rw [outerC_ge hge] at k3
  rw [← k3]
  obtain ⟨c1,c2,c3,c4,c5,c6,c7⟩:=k2
  have hela:=pts_get c6
  have helb:=pts_get c7
  rw [List.getElem?_eq_getElem c6,List.getElem?_eq_getElem c7]
  repeat' ((conv=>whnf);first|(with_reducible first|refine br_t ?_|refine br_f ?_|refine za ?_|refine zg ?_)|rw [List.length_map]|refine zp ?_|refine zq ?_|(with_reducible first|refine bc (fun h => ?_) (fun h => ?_)|refine zt ?_|refine zf ?_|refine br_i (fun h => ?_) (fun h => ?_))|refine zg ?_|refine zi ?_|refine zb ?_)
  all_goals conv=>whnf
  all_goals rfl
end Go.Proofs.YtfkfficabeclcaaGreatDoor

namespace Go.Proofs.YtfkfficabeclcaaGreatDoor
open Go.RowKit Go.Sort Sx
def plcs (l:List Pt) (n m:Int) (i:Nat):List (List D):=(l.take i).map (fun p=>[i64 (plc p n m).1,i64 (plc p n m).2])++List.replicate (l.length-i) [i64 0,i64 0]
theorem plcs_len {l:List Pt} {n m:Int} {i:Nat}:i≤l.length→(plcs l n m i).length=l.length:=by
 intro h
 simp [plcs];omega
theorem plcs_get0 {l:List Pt} {n m:Int} {i:Nat} (h:i<l.length):(plcs l n m i)[((i:Nat):Int).toNat]? = some [i64 0,i64 0]:=by
 rw [Int.toNat_natCast,plcs,List.getElem?_append_right (by simp;omega)]
 rw [List.getElem?_replicate,if_pos (by simp;omega)]
theorem plcs_set {l:List Pt} {n m:Int} {i:Nat} (h:i<l.length):(plcs l n m i).set ((i:Nat):Int).toNat [i64 (plc l[i] n m).1,i64 (plc l[i] n m).2]=plcs l n m (i+1):=by
 rw [Int.toNat_natCast]
 unfold plcs
 have hk:l.length-i=(l.length-(i+1))+1:=by omega
 rw [List.take_succ_eq_append_getElem h,hk,List.replicate_succ,List.set_append_right _ _ (by simp;omega)]
 have h0:i-((l.take i).map fun p:Pt=>[i64 (plc p n m).1,i64 (plc p n m).2]).length=0:=by simp;omega
 rw [h0,List.map_append,List.append_assoc]
 rfl
theorem plcs_all (l:List Pt) (n m:Int):plcs l n m l.length=l.map fun p=>[i64 (plc p n m).1,i64 (plc p n m).2]:=by
 simp [plcs]
theorem plcs_get {l:List Pt} {n m:Int} {i:Nat} (h:i<l.length):(plcs l n m l.length)[((i:Nat):Int).toNat]? = some [i64 (plc l[i] n m).1,i64 (plc l[i] n m).2]:=by
 rw [plcs_all,Int.toNat_natCast,List.getElem?_map,List.getElem?_eq_getElem h];rfl
def cst (l:List Pt) (s:CSt) (x y:Int):Prop:=(s.2.2.2=0∧s.2.2.1=0∧x=0∧y=0)∨cgood l s∧∃ (h1:s.1<l.length) (h2:s.2.1<l.length),x=l[s.1].id∧y=l[s.2.1].id
set_option maxHeartbeats 4000000 in
set_option maxRecDepth 100000 in
theorem oClosest_fn (l:List Pt) (n m:Int):FnOK Tryz.prog 93 [fld l,rat n m] (retC (closV l n m)):=by
 refine fn_ok (by kernel_rfl) (ty_okK [40] [] [] []) Tryz.func93 rfl (fun _ _=>Tryz.call93 _ _) rfl ?_
 intro hw
 clear hw
 have H1:=fCheck_fn l
 have H2:=asked_fn n m
 have H3:=ofirst_fn (fchk l) (askd n m)
 unfold closV
 by_cases h0:fchk l=0
 ·obtain ⟨k1,k2,k3⟩:=fchk_ok h0
  rw [if_pos h0]
  by_cases h1:askd n m=0
  ·rw [if_pos h1]
   rw [h0,h1] at H3
   rw [h0] at H1
   rw [h1] at H2
   change FnOK _ _ _ (ret1 0) at H3
   by_cases h2:l.length<2
   ·rw [if_pos h2]
    repeat' ((conv=>whnf);first|(with_reducible first|refine br_t ?_|refine br_f ?_|refine za ?_|refine zg ?_|refine zo ?_)|rw [List.length_map]|refine zp ?_|refine zq ?_|(with_reducible first|refine bc (fun h => ?_) (fun h => ?_)|refine zt ?_|refine zf ?_|refine br_i (fun h => ?_) (fun h => ?_)|refine xi (pv_bool fun _=>nev25 _ _ _ _ _ _ _) ?_)|refine zg ?_|refine zi ?_|refine zb ?_|refine zl ?_)
    all_goals conv=>whnf
    all_goals rfl
   ·rw [if_neg h2]
    repeat' ((conv=>whnf);first|(with_reducible first|refine br_t ?_|refine br_f ?_|refine za ?_|refine zg ?_|refine zo ?_)|rw [List.length_map]|refine zp ?_|refine zq ?_|(with_reducible first|refine bc (fun h => ?_) (fun h => ?_)|refine zt ?_|refine zf ?_|refine br_i (fun h => ?_) (fun h => ?_)|refine xi (pv_bool fun _=>nev25 _ _ _ _ _ _ _) ?_)|refine zg ?_|refine zi ?_|refine zb ?_|refine zl ?_)
    all_goals conv=>whnf
    refine loop_frz [40] ?_
    refine loop_J (by kernel_rfl) (ty_okK [40] [] [] []) (σ:=Nat) (fun i=>[(44,sV (.int .i64 i))]) (fun i=>[(40,.row 2 (plcs l n m i) 0)]) (fun i=>i≤l.length) (fun i=>l.length-i) 0 (Nat.zero_le _) ?_ ?_
    ·(conv=>whnf);exact zent
    intro i hi
    have hln:=plcs_len (n:=n) (m:=m) hi
    rcases Nat.lt_or_ge i l.length with hlt|hge
    ·have hel:=pts_get hlt
     have hel2:=plcs_get0 (n:=n) (m:=m) hlt
     have H4:=kAt_fn l[i].id l[i].a l[i].b n m
     rw [(plc_ok (k2 _ (List.getElem_mem hlt)) h1).1] at H4
     simp only [ret3] at H4
     repeat' ((conv=>whnf);first|(with_reducible first|refine br_t ?_|refine br_f ?_|refine za ?_|refine zg ?_|refine zo ?_)|rw [List.length_map]|refine zp ?_|refine zq ?_|(with_reducible first|refine bc (fun h => ?_) (fun h => ?_)|refine zt ?_|refine zf ?_|refine br_i (fun h => ?_) (fun h => ?_)|refine xi (pv_bool fun _=>nev25 _ _ _ _ _ _ _) ?_)|refine zg ?_|refine zi ?_|refine zb ?_|refine zl ?_)
     all_goals conv=>whnf
     refine ⟨i+1,by omega,?_,by omega⟩
     (conv=>whnf);refine ⟨by repeat' (first|with_reducible exact zE0|with_reducible refine zE1 ?_ ?_|rfl|assumption|(exact congrArg (fun x=>some (Blk.row 2 x 0)) (plcs_set hlt))|exact zi1|exact zb1),by repeat' (first|with_reducible exact zH0|with_reducible refine zH1 ?_ ?_|rfl|assumption|(exact congrArg (fun x=>some (Blk.row 2 x 0)) (plcs_set hlt))),rfl⟩
    obtain rfl:i=l.length:=by omega
    repeat' ((conv=>whnf);first|(with_reducible first|refine br_t ?_|refine br_f ?_|refine za ?_|refine zg ?_|refine zo ?_)|rw [List.length_map]|refine zp ?_|refine zq ?_|(with_reducible first|refine bc (fun h => ?_) (fun h => ?_)|refine zt ?_|refine zf ?_|refine br_i (fun h => ?_) (fun h => ?_)|refine xi (pv_bool fun _=>nev25 _ _ _ _ _ _ _) ?_)|refine zg ?_|refine zi ?_|refine zb ?_|refine zl ?_)
    conv=>whnf
    refine loop_J (by kernel_rfl) (ty_okK [40] [] [] []) (σ:=Nat × CSt × Int × Int) (fun z=>[(66,sV (.int .i64 z.1)),(14,sV (.int .i64 z.2.2.1)),(15,sV (.int .i64 z.2.2.2))]) (fun z=>[(16,.own [.d (i64 z.2.1.2.2.1),.d (i64 z.2.1.2.2.2)])])
     (fun z=>z.1≤l.length∧cst l z.2.1 z.2.2.1 z.2.2.2∧outerC n m (l.drop z.1) z.1 z.2.1=pairC l n m) (fun z=>l.length-z.1) (0,(0,0,0,0),0,0) ⟨by omega,.inl ⟨rfl,rfl,rfl,rfl⟩,rfl⟩ ?_ ?_
    ·(conv=>whnf);exact zent
    rintro ⟨a,s,x,y⟩ ⟨g1,g2,g3⟩
    simp only at g1 g2 g3
    rcases Nat.lt_or_ge a l.length with hlt|hge
    ·rw [outerC_lt hlt] at g3
     repeat' ((conv=>whnf);first|(with_reducible first|refine br_t ?_|refine br_f ?_|refine za ?_|refine zg ?_|refine zo ?_)|rw [List.length_map]|refine zp ?_|refine zq ?_|(with_reducible first|refine bc (fun h => ?_) (fun h => ?_)|refine zt ?_|refine zf ?_|refine br_i (fun h => ?_) (fun h => ?_)|refine xi (pv_bool fun _=>nev25 _ _ _ _ _ _ _) ?_)|refine zg ?_|refine zi ?_|refine zb ?_|refine zl ?_)
     conv=>whnf
     refine loop_J (by kernel_rfl) (ty_okK [40] [] [] []) (σ:=Nat × CSt × Int × Int) (fun z=>[(18,sV (.int .i64 z.1)),(14,sV (.int .i64 z.2.2.1)),(15,sV (.int .i64 z.2.2.2))]) (fun z=>[(16,.own [.d (i64 z.2.1.2.2.1),.d (i64 z.2.1.2.2.2)])])
      (fun z=>z.1≤l.length∧cst l z.2.1 z.2.2.1 z.2.2.2∧innerC n m l[a] a (l.drop z.1) z.1 z.2.1=innerC n m l[a] a (l.drop (a+1)) (a+1) s) (fun z=>l.length-z.1) (a+1,s,x,y) ⟨by show _≤_;omega,g2,rfl⟩ ?_ ?_
     ·(conv=>whnf);exact zent
     rintro ⟨b,t,u,v⟩ ⟨f1,f2,f3⟩
     simp only at f1 f2 f3
     rcases Nat.lt_or_ge b l.length with hblt|hbge
     ·have hela:=plcs_get (n:=n) (m:=m) hlt
      have helb:=plcs_get (n:=n) (m:=m) hblt
      have hida:=pts_get hlt
      have hidb:=pts_get hblt
      rw [innerC_lt hblt] at f3
      obtain ⟨c,e1,e2,d1,d2,d3,d4,d5⟩:=dst_ok (k2 _ (List.getElem_mem hlt)) (k2 _ (List.getElem_mem hblt)) h1
      have H4:=sub_fn (plc l[a] n m).1 (plc l[a] n m).2 (plc l[b] n m).1 (plc l[b] n m).2
      rw [e1] at H4
      simp only [ret3] at H4
      have hgd:=fun h=>cgood_upd (n:=n) (m:=m) (s:=t) (a:=a) (b:=b) h k2 h1 hlt hblt
      have key:∀ z w:Int,z=(dst l[a] l[b] n m).1→w=(dst l[a] l[b] n m).2→cgood l t→FnOK Tryz.prog 103 (rat2 z w t.2.2.1 t.2.2.2) (.tup [.one (i64 (cmpN ((dst l[a] l[b] n m).1*t.2.2.2) (t.2.2.1*(dst l[a] l[b] n m).2))),.one (i64 0)]):=by
       rintro z w rfl rfl ht
       have:=cmp_fn (dst l[a] l[b] n m).1 (dst l[a] l[b] n m).2 t.2.2.1 t.2.2.2
       unfold cmpV bth at this
       rw [if_pos (by rw [d1,ht.1];decide)] at this
       exact this
      generalize hx:(dst l[a] l[b] n m).1=X at *
      generalize hy:(dst l[a] l[b] n m).2=Y at *
      rcases e2 with ⟨e2,e3⟩|⟨e2,e3⟩
      ·have hwr:IntKind.i64.wrap (0-c)=X:=by rw [IntWalk.i64_in _ (by omega)];omega
       have key2:=key (IntKind.i64.wrap (0-c)) Y hwr rfl
       rcases f2 with ⟨m1,m2,rfl,rfl⟩|⟨m1,m3,m4,rfl,rfl⟩
       ·have ec:cupd t a b (dst l[a] l[b] n m)=(a,b,X,Y):=by unfold cupd;rw [if_pos (.inl m1),hx,hy]
        have hg:=hgd (.inl m1)
        rw [ec] at f3 hg
        simp only [m1,m2] at *
        repeat' ((conv=>whnf);first|(with_reducible first|refine br_t ?_|refine br_f ?_|refine za ?_|refine zg ?_|refine zo ?_)|rw [List.length_map]|refine zp ?_|refine zq ?_|(with_reducible first|refine bc (fun h => ?_) (fun h => ?_)|refine zt ?_|refine zf ?_|refine br_i (fun h => ?_) (fun h => ?_)|refine xi (pv_bool fun _=>nev25 _ _ _ _ _ _ _) ?_)|refine zg ?_|refine zi ?_|refine zb ?_|refine zl ?_)
        all_goals conv=>whnf
        refine ⟨(b+1,(a,b,X,Y),l[a].id,l[b].id),⟨by show _≤_;omega,.inr ⟨hg,hlt,hblt,rfl,rfl⟩,f3⟩,?_,by show _-_<_-_;omega⟩
        (conv=>whnf);refine ⟨by repeat' (first|with_reducible exact zE0|with_reducible refine zE1 ?_ ?_|rfl|assumption|(exact congrArg (fun z=>some (Blk.own [.d (i64 z),.d (i64 Y)])) hwr)|exact zi1|exact zb1),by repeat' (first|with_reducible exact zH0|with_reducible refine zH1 ?_ ?_|rfl|assumption|(exact congrArg (fun z=>some (Blk.own [.d (i64 z),.d (i64 Y)])) hwr)),rfl⟩
       ·replace key2:=key2 m1
        have hg:=hgd (.inr m1)
        have n1:=m1.2.1
        have n2:=m1.2.2.2.1
        clear key
        by_cases hc:X*t.2.2.2<t.2.2.1*Y
        ·have ec:cupd t a b (dst l[a] l[b] n m)=(a,b,X,Y):=by unfold cupd;rw [hx,hy,if_pos (.inr hc)]
         rw [ec] at f3 hg
         have e9:cmpN (X*t.2.2.2) (t.2.2.1*Y) = -1:=if_pos hc
         rw [e9] at key2
         clear hc e9
         repeat' ((conv=>whnf);first|(with_reducible first|refine br_t ?_|refine br_f ?_|refine za ?_|refine zg ?_|refine zo ?_)|rw [List.length_map]|refine zp ?_|refine zq ?_|(with_reducible first|refine bc (fun h => ?_) (fun h => ?_)|refine zt ?_|refine zf ?_|refine br_i (fun h => ?_) (fun h => ?_)|refine xi (pv_bool fun _=>nev25 _ _ _ _ _ _ _) ?_)|refine zg ?_|refine zi ?_|refine zb ?_|refine zl ?_)
         all_goals conv=>whnf
         refine ⟨(b+1,(a,b,X,Y),l[a].id,l[b].id),⟨by show _≤_;omega,.inr ⟨hg,hlt,hblt,rfl,rfl⟩,f3⟩,?_,by show _-_<_-_;omega⟩
         (conv=>whnf);refine ⟨by repeat' (first|with_reducible exact zE0|with_reducible refine zE1 ?_ ?_|rfl|assumption|(exact congrArg (fun z=>some (Blk.own [.d (i64 z),.d (i64 Y)])) hwr)|exact zi1|exact zb1),by repeat' (first|with_reducible exact zH0|with_reducible refine zH1 ?_ ?_|rfl|assumption|(exact congrArg (fun z=>some (Blk.own [.d (i64 z),.d (i64 Y)])) hwr)),rfl⟩
         ·exfalso;simp only at h;omega
        ·have ec:cupd t a b (dst l[a] l[b] n m)=t:=by unfold cupd;rw [hx,hy,if_neg (by omega)]
         rw [ec] at f3
         have e9:0≤cmpN (X*t.2.2.2) (t.2.2.1*Y):=by unfold cmpN;rw [if_neg hc];split<;>omega
         generalize cmpN (X*t.2.2.2) (t.2.2.1*Y)=cc at key2 e9
         clear hc
         repeat' ((conv=>whnf);first|(with_reducible first|refine br_t ?_|refine br_f ?_|refine za ?_|refine zg ?_|refine zo ?_)|rw [List.length_map]|refine zp ?_|refine zq ?_|(with_reducible first|refine bc (fun h => ?_) (fun h => ?_)|refine zt ?_|refine zf ?_|refine br_i (fun h => ?_) (fun h => ?_)|refine xi (pv_bool fun _=>nev25 _ _ _ _ _ _ _) ?_)|refine zg ?_|refine zi ?_|refine zb ?_|refine zl ?_)
         all_goals conv=>whnf
         refine ⟨(b+1,t,l[t.1].id,l[t.2.1].id),⟨by show _≤_;omega,.inr ⟨m1,m3,m4,rfl,rfl⟩,f3⟩,?_,by show _-_<_-_;omega⟩
         (conv=>whnf);exact zent
         ·exfalso;simp only at h;omega
      ·have hwr:c=X:=by omega
       have key2:=key c Y hwr rfl
       rcases f2 with ⟨m1,m2,rfl,rfl⟩|⟨m1,m3,m4,rfl,rfl⟩
       ·have ec:cupd t a b (dst l[a] l[b] n m)=(a,b,X,Y):=by unfold cupd;rw [if_pos (.inl m1),hx,hy]
        have hg:=hgd (.inl m1)
        rw [ec] at f3 hg
        simp only [m1,m2] at *
        repeat' ((conv=>whnf);first|(with_reducible first|refine br_t ?_|refine br_f ?_|refine za ?_|refine zg ?_|refine zo ?_)|rw [List.length_map]|refine zp ?_|refine zq ?_|(with_reducible first|refine bc (fun h => ?_) (fun h => ?_)|refine zt ?_|refine zf ?_|refine br_i (fun h => ?_) (fun h => ?_)|refine xi (pv_bool fun _=>nev25 _ _ _ _ _ _ _) ?_)|refine zg ?_|refine zi ?_|refine zb ?_|refine zl ?_)
        all_goals conv=>whnf
        refine ⟨(b+1,(a,b,X,Y),l[a].id,l[b].id),⟨by show _≤_;omega,.inr ⟨hg,hlt,hblt,rfl,rfl⟩,f3⟩,?_,by show _-_<_-_;omega⟩
        (conv=>whnf);refine ⟨by repeat' (first|with_reducible exact zE0|with_reducible refine zE1 ?_ ?_|rfl|assumption|(exact congrArg (fun z=>some (Blk.own [.d (i64 z),.d (i64 Y)])) hwr)|exact zi1|exact zb1),by repeat' (first|with_reducible exact zH0|with_reducible refine zH1 ?_ ?_|rfl|assumption|(exact congrArg (fun z=>some (Blk.own [.d (i64 z),.d (i64 Y)])) hwr)),rfl⟩
       ·replace key2:=key2 m1
        have hg:=hgd (.inr m1)
        have n1:=m1.2.1
        have n2:=m1.2.2.2.1
        clear key
        by_cases hc:X*t.2.2.2<t.2.2.1*Y
        ·have ec:cupd t a b (dst l[a] l[b] n m)=(a,b,X,Y):=by unfold cupd;rw [hx,hy,if_pos (.inr hc)]
         rw [ec] at f3 hg
         have e9:cmpN (X*t.2.2.2) (t.2.2.1*Y) = -1:=if_pos hc
         rw [e9] at key2
         clear hc e9
         repeat' ((conv=>whnf);first|(with_reducible first|refine br_t ?_|refine br_f ?_|refine za ?_|refine zg ?_|refine zo ?_)|rw [List.length_map]|refine zp ?_|refine zq ?_|(with_reducible first|refine bc (fun h => ?_) (fun h => ?_)|refine zt ?_|refine zf ?_|refine br_i (fun h => ?_) (fun h => ?_)|refine xi (pv_bool fun _=>nev25 _ _ _ _ _ _ _) ?_)|refine zg ?_|refine zi ?_|refine zb ?_|refine zl ?_)
         all_goals conv=>whnf
         refine ⟨(b+1,(a,b,X,Y),l[a].id,l[b].id),⟨by show _≤_;omega,.inr ⟨hg,hlt,hblt,rfl,rfl⟩,f3⟩,?_,by show _-_<_-_;omega⟩
         (conv=>whnf);refine ⟨by repeat' (first|with_reducible exact zE0|with_reducible refine zE1 ?_ ?_|rfl|assumption|(exact congrArg (fun z=>some (Blk.own [.d (i64 z),.d (i64 Y)])) hwr)|exact zi1|exact zb1),by repeat' (first|with_reducible exact zH0|with_reducible refine zH1 ?_ ?_|rfl|assumption|(exact congrArg (fun z=>some (Blk.own [.d (i64 z),.d (i64 Y)])) hwr)),rfl⟩
         ·exfalso;simp only at h;omega
        ·have ec:cupd t a b (dst l[a] l[b] n m)=t:=by unfold cupd;rw [hx,hy,if_neg (by omega)]
         rw [ec] at f3
         have e9:0≤cmpN (X*t.2.2.2) (t.2.2.1*Y):=by unfold cmpN;rw [if_neg hc];split<;>omega
         generalize cmpN (X*t.2.2.2) (t.2.2.1*Y)=cc at key2 e9
         clear hc
         repeat' ((conv=>whnf);first|(with_reducible first|refine br_t ?_|refine br_f ?_|refine za ?_|refine zg ?_|refine zo ?_)|rw [List.length_map]|refine zp ?_|refine zq ?_|(with_reducible first|refine bc (fun h => ?_) (fun h => ?_)|refine zt ?_|refine zf ?_|refine br_i (fun h => ?_) (fun h => ?_)|refine xi (pv_bool fun _=>nev25 _ _ _ _ _ _ _) ?_)|refine zg ?_|refine zi ?_|refine zb ?_|refine zl ?_)
         all_goals conv=>whnf
         refine ⟨(b+1,t,l[t.1].id,l[t.2.1].id),⟨by show _≤_;omega,.inr ⟨m1,m3,m4,rfl,rfl⟩,f3⟩,?_,by show _-_<_-_;omega⟩
         (conv=>whnf);exact zent
         ·exfalso;simp only at h;omega
     ·rw [innerC_ge hbge] at f3
      rw [← f3] at g3
      repeat' ((conv=>whnf);first|(with_reducible first|refine br_t ?_|refine br_f ?_|refine za ?_|refine zg ?_|refine zo ?_)|rw [List.length_map]|refine zp ?_|refine zq ?_|(with_reducible first|refine bc (fun h => ?_) (fun h => ?_)|refine zt ?_|refine zf ?_|refine br_i (fun h => ?_) (fun h => ?_)|refine xi (pv_bool fun _=>nev25 _ _ _ _ _ _ _) ?_)|refine zg ?_|refine zi ?_|refine zb ?_|refine zl ?_)
      all_goals conv=>whnf
      refine ⟨(a+1,t,u,v),⟨by show _≤_;omega,f2,g3⟩,?_,by show _-_<_-_;omega⟩
      (conv=>whnf);exact zent
    ·rw [outerC_ge hge] at g3
     rw [← g3]
     rcases g2 with g2|⟨g2,g4,g5,rfl,rfl⟩
     ·exfalso
      have:=pairC_ok k2 h1 (by omega)
      rw [← g3] at this
      obtain ⟨_,_,_⟩:=this
      omega
     rw [List.getElem?_eq_getElem g4,List.getElem?_eq_getElem g5]
     repeat' ((conv=>whnf);first|(with_reducible first|refine br_t ?_|refine br_f ?_|refine za ?_|refine zg ?_|refine zo ?_)|rw [List.length_map]|refine zp ?_|refine zq ?_|(with_reducible first|refine bc (fun h => ?_) (fun h => ?_)|refine zt ?_|refine zf ?_|refine br_i (fun h => ?_) (fun h => ?_)|refine xi (pv_bool fun _=>nev25 _ _ _ _ _ _ _) ?_)|refine zg ?_|refine zi ?_|refine zb ?_|refine zl ?_)
     all_goals conv=>whnf
     all_goals rfl
  ·rw [if_neg h1]
   rw [h0] at H3 H1
   change FnOK _ _ _ (ret1 (askd n m)) at H3
   generalize askd n m=z at *
   repeat' ((conv=>whnf);first|(with_reducible first|refine br_t ?_|refine br_f ?_|refine za ?_|refine zg ?_|refine zo ?_)|rw [List.length_map]|refine zp ?_|refine zq ?_|(with_reducible first|refine bc (fun h => ?_) (fun h => ?_)|refine zt ?_|refine zf ?_|refine br_i (fun h => ?_) (fun h => ?_)|refine xi (pv_bool fun _=>nev25 _ _ _ _ _ _ _) ?_)|refine zg ?_|refine zi ?_|refine zb ?_|refine zl ?_)
   all_goals conv=>whnf
   all_goals rfl
 ·rw [if_neg h0]
  have e:orN (fchk l) (askd n m)=fchk l:=if_neg h0
  rw [e] at H3
  repeat' ((conv=>whnf);first|(with_reducible first|refine br_t ?_|refine br_f ?_|refine za ?_|refine zg ?_|refine zo ?_)|rw [List.length_map]|refine zp ?_|refine zq ?_|(with_reducible first|refine bc (fun h => ?_) (fun h => ?_)|refine zt ?_|refine zf ?_|refine br_i (fun h => ?_) (fun h => ?_)|refine xi (pv_bool fun _=>nev25 _ _ _ _ _ _ _) ?_)|refine zg ?_|refine zi ?_|refine zb ?_|refine zl ?_)
  all_goals conv=>whnf
  all_goals rfl
end Go.Proofs.YtfkfficabeclcaaGreatDoor

namespace Go.Proofs.YtfkfficabeclcaaGreatDoor
open Go.RowKit Go.Sort Sx
end Go.Proofs.YtfkfficabeclcaaGreatDoor

namespace Go.Proofs.YtfkfficabeclcaaGreatDoor
open Go Go.RowKit Go.Sort Sx
set_option maxRecDepth 2000
abbrev retA (x:Md × Rp):DV:=.tup [x.1.dc,x.2.dc]
end Go.Proofs.YtfkfficabeclcaaGreatDoor

namespace Go.Proofs.YtfkfficabeclcaaGreatDoor
open Go Go.RowKit Go.Sort Sx
theorem rmBefore_fn {a b:Mt} (h1:chk a.n a.d=0) (h2:chk b.n b.d=0):FnOK Tryz.prog 119 [a.dc,b.dc] (.c (.one (bol (decide (mlt a b))))):=by
 have H:=rcompare_fn a.n a.d b.n b.d
 have q1:=qv_ltM h1 h2
 have q2:=qv_ltM h2 h1
 have e:cmpN (a.n*b.d) (b.n*a.d) = -1∧mlt a b∨cmpN (a.n*b.d) (b.n*a.d)=1∧¬ mlt a b∨cmpN (a.n*b.d) (b.n*a.d)=0∧(mlt a b↔(a.i<b.i∨a.i=b.i∧a.j<b.j)):=by
  unfold cmpN mlt
  by_cases c1:a.n*b.d<b.n*a.d
  ·exact .inl ⟨if_pos c1,.inl (q1.2 c1)⟩
  ·by_cases c2:a.n*b.d > b.n*a.d
   ·have k:=q2.2 c2
    exact .inr (.inl ⟨by rw [if_neg c1,if_pos c2],fun h=>h.elim (fun h=>c1 (q1.1 h)) fun h=>by rw [h.1] at k;exact Rat.lt_irrefl k⟩)
   ·have k:qv a.n a.d=qv b.n b.d:=Rat.le_antisymm (Rat.not_lt.1 fun h=>c2 (q2.1 h)) (Rat.not_lt.1 fun h=>c1 (q1.1 h))
    refine .inr (.inr ⟨by rw [if_neg c1,if_neg c2],?_⟩)
    rw [k]
    have:=Rat.lt_irrefl (a:=qv b.n b.d)
    simp only [this,false_or,true_and]
 generalize cmpN (a.n*b.d) (b.n*a.d)=z at *
 simp only [ret1] at H
 rcases e with ⟨rfl,e⟩|⟨rfl,e⟩|⟨rfl,e⟩
 ·rw [decide_eq_true e]
  refine fn_ok (by kernel_rfl) ty_ok Tryz.func119 rfl (fun _ _=>Tryz.call119 _ _) rfl ?_
  intro hw
  clear hw q1 q2
  exact zw
 ·rw [decide_eq_false e]
  refine fn_ok (by kernel_rfl) ty_ok Tryz.func119 rfl (fun _ _=>Tryz.call119 _ _) rfl ?_
  intro hw
  clear hw q1 q2
  exact zw
 ·refine fn_ok (by kernel_rfl) ty_ok Tryz.func119 rfl (fun _ _=>Tryz.call119 _ _) rfl ?_
  intro hw
  clear hw q1 q2
  repeat' ((conv=>whnf);first|(with_reducible first|refine br_t ?_|refine br_f ?_|refine za ?_|refine zg ?_)|refine zp ?_|refine zq ?_|(with_reducible first|refine bc (fun h => ?_) (fun h => ?_)|refine zt ?_|refine zf ?_|refine br_i (fun h => ?_) (fun h => ?_))|refine zg ?_|refine zi ?_|refine zb ?_)
  all_goals conv=>whnf
  all_goals
   refine r_bool ?_
   rw [decide_eq_decide,e]
   omega
def inP (l:List Pt) (i k:Nat) (h:i<l.length):List (Pt × Pt):=preP l i++((l.drop (i+1)).take (k-(i+1))).map (fun q=>(l[i],q))
theorem inP_next {l:List Pt} {i k:Nat} (h:i<l.length) (hk:k<l.length) (hik:i<k):inP l i (k+1) h=inP l i k h++[(l[i],l[k])]:=by
 unfold inP
 rw [List.append_assoc]
 congr 1
 rw [show k+1-(i+1)=(k-(i+1))+1 by omega,List.take_succ_eq_append_getElem (by rw [List.length_drop];omega),List.map_append,List.getElem_drop]
 simp only [List.map_cons,List.map_nil,show i+1+(k-(i+1))=k by omega]
theorem inP_len {l:List Pt} {i k:Nat} (h:i<l.length) (hl:l.length≤64):(outs (inP l i k h)).length≤10000:=by
 refine Nat.le_trans (outs_len _) ?_
 have h1:=preP_split (l:=l) (i:=i+1) (by omega)
 have h2:=pairs_len l
 have h3:l.length*l.length≤64*64:=Nat.mul_le_mul hl hl
 have h4:=congrArg List.length h1
 rw [preP_succ h] at h4
 unfold inP
 simp only [List.length_append,List.length_map,List.length_take,List.length_drop] at *
 omega
structure InsO (L0:List Mt) (i:Nat) (L:List Mt):Prop where
 p:L.Perm L0
 o:∀ a b (h:a<b) (hb:b<L.length),b<i→¬ mlt L[b] L[a]
structure InsI (L0:List Mt) (i k:Nat) (L:List Mt):Prop where
 p:L.Perm L0
 hk:k≤i
 hi:i<L.length
 o:∀ a b (h:a<b) (hb:b<L.length),b≤i→b≠k→¬ mlt L[b] L[a]
def swp (L:List Mt) (k:Nat) (h:k<L.length):List Mt:=(L.set k L[k-1]).set (k-1) L[k]
theorem swp_len {L:List Mt} {k:Nat} (h:k<L.length):(swp L k h).length=L.length:=by simp [swp]
theorem swp_get {L:List Mt} {k:Nat} (h:k<L.length) (h0:0<k) {b:Nat} (hb:b<(swp L k h).length) :
  (swp L k h)[b]=if b=k-1 then L[k] else if b=k then L[k-1] else L[b]'(by rw [swp_len] at hb;exact hb):=by
 simp only [swp,List.getElem_set,eq_comm (b:=b)]
theorem swap_at {x y:Mt} {l r:List Mt}:(l++y::x::r).Perm (l++x::y::r):=List.Perm.append_left l (List.Perm.swap ..)
theorem swp_perm {L:List Mt} {k:Nat} (h:k<L.length) (h0:0<k):(swp L k h).Perm L:=by
 obtain ⟨j,rfl⟩:∃ j,k=j+1:=⟨k-1,by omega⟩
 have e1:L=L.take j++L[j]::L[j+1]::L.drop (j+2):=by
  rw [← List.drop_eq_getElem_cons h,← List.drop_eq_getElem_cons (by omega),List.take_append_drop]
 have e2:swp L (j+1) h=L.take j++L[j+1]::L[j]::L.drop (j+2):=by
  refine List.ext_getElem (by rw [swp_len];simp;omega) fun b h1 h2 => ?_
  rw [swp_get h h0]
  rw [swp_len] at h1
  simp only [Nat.add_sub_cancel]
  rcases Nat.lt_trichotomy b j with c|c|c
  ·rw [if_neg (by omega),if_neg (by omega),List.getElem_append_left (by simp;omega),List.getElem_take]
  ·subst c
   have hm:min b L.length=b:=Nat.min_eq_left (by omega)
   rw [if_pos rfl,List.getElem_append_right (by rw [List.length_take];omega)]
   simp only [List.length_take,hm,Nat.sub_self,List.getElem_cons_zero]
  ·rw [if_neg (by omega),List.getElem_append_right (by simp;omega)]
   by_cases c1:b=j+1
   ·subst c1
    have key:∀ q,q=1→∀ (hq:q<(L[j+1]::L[j]::List.drop (j+2) L).length),(L[j+1]::L[j]::List.drop (j+2) L)[q]=L[j]:=by rintro _ rfl _;rfl
    rw [if_pos rfl]
    exact (key _ (by rw [List.length_take];omega) _).symm
   ·obtain ⟨d,rfl⟩:∃ d,b=j+(d+2):=⟨b-j-2,by omega⟩
    rw [if_neg c1]
    simp only [List.length_take,Nat.min_eq_left (show j≤L.length by omega),Nat.add_sub_cancel_left,List.getElem_cons_succ,List.getElem_drop]
    exact getElem_congr rfl (by omega) _
 rw [e2]
 conv=>rhs;rw [e1]
 exact swap_at
theorem InsI.start {L0 L:List Mt} {i:Nat} (H:InsO L0 i L) (h:i<L.length):InsI L0 i i L:=⟨H.p,Nat.le_refl _,h,fun a b h hb h1 h2=>H.o a b h hb (by omega)⟩
theorem InsI.stop0 {L0 L:List Mt} {i:Nat} (H:InsI L0 i 0 L):InsO L0 (i+1) L:=⟨H.p,fun a b h hb h1=>H.o a b h hb (by omega) (by omega)⟩
theorem InsI.stop {L0 L:List Mt} {i k:Nat} (H:InsI L0 i k L) (h0:0<k) (hn:¬ mlt (L[k]'(Nat.lt_of_le_of_lt H.hk H.hi)) (L[k-1]'(by have:=H.hk;have:=H.hi;omega))):InsO L0 (i+1) L:=by
 refine ⟨H.p,fun a b h hb h1 => ?_⟩
 by_cases hbk:b=k
 ·subst hbk
  by_cases ha:a=b-1
  ·subst ha;exact hn
  ·exact mlt_neg (H.o a (b-1) (by omega) (by omega) (by omega) (by omega)) hn
 ·exact H.o a b h hb (by omega) hbk
theorem InsI.next {L0 L:List Mt} {i k:Nat} (H:InsI L0 i k L) (h0:0<k) (hl:mlt (L[k]'(Nat.lt_of_le_of_lt H.hk H.hi)) (L[k-1]'(by have:=H.hk;have:=H.hi;omega))):InsI L0 i (k-1) (swp L k (Nat.lt_of_le_of_lt H.hk H.hi)):=by
 have hk:=H.hk
 have hi:=H.hi
 refine ⟨(List.Perm.trans ?_ H.p),by omega,by rw [swp_len];exact hi,fun a b h hb h1 h2 => ?_⟩
 ·exact swp_perm _ h0
 ·have hb':=hb
  rw [swp_len] at hb'
  rw [swp_get _ h0,swp_get _ h0]
  rw [if_neg h2]
  by_cases c1:b=k
  ·rw [if_pos c1]
   by_cases c2:a=k-1
   ·rw [if_pos c2];exact fun h=>mlt_asymm h hl
   ·rw [if_neg c2,if_neg (by omega)]
    exact H.o a (k-1) (by omega) (by omega) (by omega) (by omega)
  ·rw [if_neg c1]
   by_cases c2:a=k-1
   ·rw [if_pos c2]
    exact H.o k b (by omega) hb' h1 c1
   ·rw [if_neg c2]
    by_cases c3:a=k
    ·rw [if_pos c3]
     exact H.o (k-1) b (by omega) hb' h1 c1
    ·rw [if_neg c3]
     exact H.o a b h hb' h1 c1
theorem InsO.done {L0 L:List Mt} {i:Nat} (H:InsO L0 i L) (hok:∀ m∈L0,chk m.n m.d=0) (hi:L.length≤i):L=msrt L0:=by
 refine List.Perm.eq_of_pairwise (le:=fun a b=>¬ mlt b a) (fun a b ha hb h1 h2 => ?_) ?_ (msrt_sorted L0) (H.p.trans (msrt_perm L0).symm)
 ·exact mlt_eq (hok a (H.p.mem_iff.1 ha)) (hok b (msrt_mem.1 hb)) h2 h1
 ·exact List.pairwise_iff_getElem.2 fun a b ha hb h=>H.o a b h hb (by omega)
set_option maxHeartbeats 2000000 in
theorem rmPairs_fn {l:List Pt} (hv:fchk l=0):FnOK Tryz.prog 170 [fld l] (.c (.one (mts (allM l)))):=by
 obtain ⟨k1,k2,k3⟩:=fchk_ok hv
 refine fn_ok (by kernel_rfl) (ty_okK [3,51] [] [] []) Tryz.func170 rfl (fun _ _=>Tryz.call170 _ _) rfl ?_
 intro hw
 clear hw
 repeat' ((conv=>whnf);first|(with_reducible first|refine br_t ?_|refine br_f ?_|refine za ?_|refine zg ?_|refine zo ?_)|rw [List.length_map]|refine zp ?_|refine zq ?_|(with_reducible first|refine bc (fun h => ?_) (fun h => ?_)|refine zt ?_|refine zf ?_|refine br_i (fun h => ?_) (fun h => ?_))|refine zg ?_|refine zi ?_|refine zb ?_|refine zl ?_)
 refine loop_J (by kernel_rfl) (ty_okK [3,51] [] [] []) (σ:=Nat) (fun i=>[(4,sV (.int .i64 i)),(3,.c (.at (.osl 3 0)))]) (fun i=>[(3,.row 4 ((outs (preP l i)).map Mt.c) 0)]) (fun i=>i≤l.length) (fun i=>l.length-i) 0 (Nat.zero_le _) ?_ ?_
 ·(conv=>whnf);refine ⟨by repeat' (first|with_reducible exact zE0|with_reducible refine zE1 ?_ ?_|rfl|assumption|((cases l<;>rfl))|exact zi1|exact zb1),by repeat' (first|with_reducible exact zH0|with_reducible refine zH1 ?_ ?_|rfl|assumption|((cases l<;>rfl))),rfl⟩
 intro i hi
 rcases Nat.lt_or_ge i l.length with hlt|hge
 ·have hel:=pts_get hlt
  repeat' ((conv=>whnf);first|(with_reducible first|refine br_t ?_|refine br_f ?_|refine za ?_|refine zg ?_|refine zo ?_)|rw [List.length_map]|refine zp ?_|refine zq ?_|(with_reducible first|refine bc (fun h => ?_) (fun h => ?_)|refine zt ?_|refine zf ?_|refine br_i (fun h => ?_) (fun h => ?_))|refine zg ?_|refine zi ?_|refine zb ?_|refine zl ?_)
  refine loop_J (by kernel_rfl) (ty_okK [3,51] [] [] []) (σ:=Nat) (fun k=>[(5,sV (.int .i64 k)),(3,.c (.at (.osl 3 0)))]) (fun k=>[(3,.row 4 ((outs (inP l i k hlt)).map Mt.c) 0)]) (fun k=>i<k∧k≤l.length) (fun k=>l.length-k) (i+1) ⟨Nat.lt_succ_self _,hlt⟩ ?_ ?_
  ·have e0:inP l i (i+1) hlt=preP l i:=by unfold inP;simp
   (conv=>whnf);refine ⟨by repeat' (first|with_reducible exact zE0|with_reducible refine zE1 ?_ ?_|rfl|assumption|((exact congrArg (fun x=>some (Blk.row 4 ((outs x).map Mt.c) 0)) e0.symm))|exact zi1|exact zb1),by repeat' (first|with_reducible exact zH0|with_reducible refine zH1 ?_ ?_|rfl|assumption|((exact congrArg (fun x=>some (Blk.row 4 ((outs x).map Mt.c) 0)) e0.symm))),rfl⟩
  rintro k ⟨hik,hk⟩
  rcases Nat.lt_or_ge k l.length with hklt|hkge
  ·have hel2:=pts_get hklt
   have hlen:=inP_len (k:=k) hlt k1
   have hsn:outs (inP l i (k+1) hlt)=outs (inP l i k hlt)++(meet1 (l[i],l[k])).toList:=by rw [inP_next hlt hklt hik,outs_snoc]
   have hne:l[i].id≠l[k].id:=by have:=incr_lt k3 k i hklt hik;omega
   have HM:=kkMet_fn l[i].id l[i].a l[i].b l[k].id l[k].a l[k].b (k2 _ (List.getElem_mem hlt)) (k2 _ (List.getElem_mem hklt))
   rcases meet_cases (k2 _ (List.getElem_mem hlt)) (k2 _ (List.getElem_mem hklt)) hne with ⟨hb,e⟩|⟨hb,e,_⟩
   ·rw [e] at hsn
    clear HM
    repeat' ((conv=>whnf);first|(with_reducible first|refine br_t ?_|refine br_f ?_|refine za ?_|refine zg ?_|refine zo ?_)|rw [List.length_map]|refine zp ?_|refine zq ?_|(with_reducible first|refine bc (fun h => ?_) (fun h => ?_)|refine zt ?_|refine zf ?_|refine br_i (fun h => ?_) (fun h => ?_))|refine zg ?_|refine zi ?_|refine zb ?_|refine zl ?_)
    all_goals conv=>whnf
    refine ⟨k+1,⟨by omega,by omega⟩,?_,by omega⟩
    (conv=>whnf);refine ⟨by repeat' (first|with_reducible exact zE0|with_reducible refine zE1 ?_ ?_|rfl|assumption|((exact congrArg (fun x=>some (Blk.row 4 (x.map Mt.c) 0)) (hsn.trans (List.append_nil _)).symm))|exact zi1|exact zb1),by repeat' (first|with_reducible exact zH0|with_reducible refine zH1 ?_ ?_|rfl|assumption|((exact congrArg (fun x=>some (Blk.row 4 (x.map Mt.c) 0)) (hsn.trans (List.append_nil _)).symm))),rfl⟩
   ·rw [e] at hsn
    generalize makeV (l[i].a-l[k].a) (l[k].b-l[i].b)=mv at *
    have ha:(outs (inP l i k hlt)).map Mt.c++[[i64 mv.1,i64 mv.2.1,i64 l[i].id,i64 l[k].id]]=(outs (inP l i (k+1) hlt)).map Mt.c:=by rw [hsn,List.map_append];rfl
    generalize outs (inP l i k hlt)=o at *
    have hol:(o.map Mt.c).length=o.length:=List.length_map ..
    repeat' ((conv=>whnf);first|(with_reducible first|refine br_t ?_|refine br_f ?_|refine za ?_|refine zg ?_|refine zo ?_)|rw [List.length_map]|refine zp ?_|refine zq ?_|(with_reducible first|refine bc (fun h => ?_) (fun h => ?_)|refine zt ?_|refine zf ?_|refine br_i (fun h => ?_) (fun h => ?_))|refine zg ?_|refine zi ?_|refine zb ?_|refine zl ?_)
    all_goals conv=>whnf
    refine ⟨k+1,⟨by omega,by omega⟩,?_,by omega⟩
    (conv=>whnf);refine ⟨by repeat' (first|with_reducible exact zE0|with_reducible refine zE1 ?_ ?_|rfl|assumption|((exact congrArg (fun x=>some (Blk.row 4 x 0)) ha))|exact zi1|exact zb1),by repeat' (first|with_reducible exact zH0|with_reducible refine zH1 ?_ ?_|rfl|assumption|((exact congrArg (fun x=>some (Blk.row 4 x 0)) ha))),rfl⟩
  ·obtain rfl:k=l.length:=by omega
   repeat' ((conv=>whnf);first|(with_reducible first|refine br_t ?_|refine br_f ?_|refine za ?_|refine zg ?_|refine zo ?_)|rw [List.length_map]|refine zp ?_|refine zq ?_|(with_reducible first|refine bc (fun h => ?_) (fun h => ?_)|refine zt ?_|refine zf ?_|refine br_i (fun h => ?_) (fun h => ?_))|refine zg ?_|refine zi ?_|refine zb ?_|refine zl ?_)
   all_goals conv=>whnf
   refine ⟨i+1,hlt,?_,by omega⟩
   have e:inP l i l.length hlt=preP l (i+1):=by
    rw [preP_succ hlt];unfold inP;rw [List.take_of_length_le (by rw [List.length_drop];omega)]
   (conv=>whnf);refine ⟨by repeat' (first|with_reducible exact zE0|with_reducible refine zE1 ?_ ?_|rfl|assumption|((exact congrArg (fun x=>some (Blk.row 4 ((outs x).map Mt.c) 0)) e))|exact zi1|exact zb1),by repeat' (first|with_reducible exact zH0|with_reducible refine zH1 ?_ ?_|rfl|assumption|((exact congrArg (fun x=>some (Blk.row 4 ((outs x).map Mt.c) 0)) e))),rfl⟩
 ·obtain rfl:i=l.length:=by omega
  rw [preP_all]
  have hok:∀ m∈outs (pairsOf l),chk m.n m.d=0:=fun m hm=>(outs_ok hv m hm).1.1
  have hln:=outs_len2 k1
  unfold allM
  generalize outs (pairsOf l)=L0 at *
  have hol:(L0.map Mt.c).length=L0.length:=List.length_map ..
  repeat' ((conv=>whnf);first|(with_reducible first|refine br_t ?_|refine br_f ?_|refine za ?_|refine zg ?_|refine zo ?_)|rw [List.length_map]|refine zp ?_|refine zq ?_|(with_reducible first|refine bc (fun h => ?_) (fun h => ?_)|refine zt ?_|refine zf ?_|refine br_i (fun h => ?_) (fun h => ?_))|refine zg ?_|refine zi ?_|refine zb ?_|refine zl ?_)
  refine loop_J (by kernel_rfl) (ty_okK [3,51] [] [] []) (σ:=Nat × List Mt) (fun s=>[(8,sV (.int .i64 s.1)),(3,.c (.at (.osl 3 0)))]) (fun s=>[(3,.row 4 (s.2.map Mt.c) 0)]) (fun s=>1≤s.1∧s.1≤L0.length+1∧InsO L0 s.1 s.2) (fun s=>L0.length+1-s.1) (1,L0) ⟨Nat.le_refl _,Nat.le_add_left ..,.refl _,fun a b h hb h1=>by omega⟩ ?_ ?_
  ·(conv=>whnf);exact zent
  rintro ⟨i,L⟩ ⟨hi1,hi2,HI⟩
  dsimp only at hi1 hi2 HI
  have hLl:L.length=L0.length:=HI.p.length_eq
  have hLl2:((i,L):Nat × List Mt).snd.length=L0.length:=hLl
  have hLl3:(L.map Mt.c).length=L0.length:=(List.length_map ..).trans hLl
  rcases Nat.lt_or_ge i L.length with hlt|hge
  ·repeat' ((conv=>whnf);first|(with_reducible first|refine br_t ?_|refine br_f ?_|refine za ?_|refine zg ?_|refine zo ?_)|rw [List.length_map]|refine zp ?_|refine zq ?_|(with_reducible first|refine bc (fun h => ?_) (fun h => ?_)|refine zt ?_|refine zf ?_|refine br_i (fun h => ?_) (fun h => ?_))|refine zg ?_|refine zi ?_|refine zb ?_|refine zl ?_)
   refine loop_J (by kernel_rfl) (ty_okK [3,51] [] [] []) (σ:=Nat × List Mt) (fun s=>[(9,sV (.int .i64 s.1)),(3,.c (.at (.osl 3 0)))]) (fun s=>[(3,.row 4 (s.2.map Mt.c) 0)]) (fun s=>InsI L0 i s.1 s.2) (fun s=>s.1) (i,L) (InsI.start HI hlt) ?_ ?_
   ·(conv=>whnf);exact zent
   rintro ⟨k,M⟩ HK
   dsimp only at HK
   have hMl:M.length=L0.length:=HK.p.length_eq
   have hMl2:((k,M):Nat × List Mt).snd.length=L0.length:=hMl
   have hki:=HK.hk
   rcases Nat.eq_zero_or_pos k with rfl|h0
   ·repeat' ((conv=>whnf);first|(with_reducible first|refine br_t ?_|refine br_f ?_|refine za ?_|refine zg ?_|refine zo ?_)|rw [List.length_map]|refine zp ?_|refine zq ?_|(with_reducible first|refine bc (fun h => ?_) (fun h => ?_)|refine zt ?_|refine zf ?_|refine br_i (fun h => ?_) (fun h => ?_))|refine zg ?_|refine zi ?_|refine zb ?_|refine zl ?_)
    all_goals conv=>whnf
    refine ⟨(i+1,M),⟨by omega,by omega,HK.stop0⟩,?_,by simp only;omega⟩
    (conv=>whnf);exact zent
   ·have hkM:k<M.length:=by omega
    have hel1:=mts_get hkM
    have ew:IntKind.i64.wrap ((k:Int)-1)=((k-1:Nat):Int):=by rw [IntWalk.i64_in _ (by omega)];omega
    have hel2:(M.map Mt.c)[(IntKind.i64.wrap ((k:Int)-1)).toNat]? = some [i64 M[k-1].n,i64 M[k-1].d,i64 M[k-1].i,i64 M[k-1].j]:=by
     rw [ew];exact (mts_get (l:=M) (i:=k-1) (by omega))
    have HB:=rmBefore_fn (hok _ (HK.p.mem_iff.1 (List.getElem_mem hkM))) (hok _ (HK.p.mem_iff.1 (List.getElem_mem (show k-1<M.length by omega))))
    by_cases hm:mlt M[k] M[k-1]
    ·have HN:=HK.next h0 hm
     rw [decide_eq_true hm] at HB
     have hset:((M.map Mt.c).set ((k:Nat):Int).toNat [i64 M[k-1].n,i64 M[k-1].d,i64 M[k-1].i,i64 M[k-1].j]).set (IntKind.i64.wrap ((k:Int)-1)).toNat [i64 M[k].n,i64 M[k].d,i64 M[k].i,i64 M[k].j]=(swp M k hkM).map Mt.c:=by
      rw [ew,Int.toNat_natCast,Int.toNat_natCast]
      unfold swp
      rw [List.map_set,List.map_set]
      rfl
     generalize M[k]=mk,M[k-1]=mj at *
     have hel3:((M.map Mt.c).set ((k:Nat):Int).toNat [i64 mj.n,i64 mj.d,i64 mj.i,i64 mj.j])[(IntKind.i64.wrap ((k:Int)-1)).toNat]? = some [i64 mj.n,i64 mj.d,i64 mj.i,i64 mj.j]:=by
      rw [List.getElem?_set_ne (by rw [ew];omega)];exact hel2
     repeat' ((conv=>whnf);first|(with_reducible first|refine br_t ?_|refine br_f ?_|refine za ?_|refine zg ?_|refine zo ?_)|refine And.intro (by rw [ew];omega) ?_|refine ⟨_,⟨hel3,by decide⟩,?_⟩|simp only [List.length_map,List.length_set]|refine zp ?_|refine zq ?_|(with_reducible first|refine bc (fun h => ?_) (fun h => ?_)|refine zt ?_|refine zf ?_|refine br_i (fun h => ?_) (fun h => ?_))|refine zg ?_|refine zi ?_|refine zb ?_|refine zl ?_)
     all_goals conv=>whnf
     refine ⟨(k-1,swp M k hkM),HN,?_,by simp only;omega⟩
     (conv=>whnf);refine ⟨by repeat' (first|with_reducible exact zE0|with_reducible refine zE1 ?_ ?_|rfl|assumption|((exact congrArg (fun x=>some (Blk.row 4 x 0)) hset))|exact zi1|exact zb1),by repeat' (first|with_reducible exact zH0|with_reducible refine zH1 ?_ ?_|rfl|assumption|((exact congrArg (fun x=>some (Blk.row 4 x 0)) hset))),rfl⟩
    ·have HN:=HK.stop h0 hm
     rw [decide_eq_false hm] at HB
     generalize M[k]=mk,M[k-1]=mj at *
     repeat' ((conv=>whnf);first|(with_reducible first|refine br_t ?_|refine br_f ?_|refine za ?_|refine zg ?_|refine zo ?_)|refine And.intro (by rw [ew];omega) ?_|rw [List.length_map]|refine zp ?_|refine zq ?_|(with_reducible first|refine bc (fun h => ?_) (fun h => ?_)|refine zt ?_|refine zf ?_|refine br_i (fun h => ?_) (fun h => ?_))|refine zg ?_|refine zi ?_|refine zb ?_|refine zl ?_)
     all_goals conv=>whnf
     refine ⟨(i+1,M),⟨by omega,by omega,HN⟩,?_,by simp only;omega⟩
     (conv=>whnf);exact zent
  ·have e:=HI.done hok hge
   subst e
   repeat' ((conv=>whnf);first|(with_reducible first|refine br_t ?_|refine br_f ?_|refine za ?_|refine zg ?_|refine zo ?_)|rw [List.length_map]|refine zp ?_|refine zq ?_|(with_reducible first|refine bc (fun h => ?_) (fun h => ?_)|refine zt ?_|refine zf ?_|refine br_i (fun h => ?_) (fun h => ?_))|refine zg ?_|refine zi ?_|refine zb ?_|refine zl ?_)
   all_goals conv=>whnf
   all_goals rfl
end Go.Proofs.YtfkfficabeclcaaGreatDoor

namespace Go.Proofs.YtfkfficabeclcaaGreatDoor
open Go Go.RowKit Go.Sort Sx
theorem Mt.eq_iff {p q:Mt}:p=q↔p.n=q.n∧p.d=q.d∧p.i=q.i∧p.j=q.j:=by
 cases p;cases q;simp
end Go.Proofs.YtfkfficabeclcaaGreatDoor

namespace Go.Proofs.YtfkfficabeclcaaGreatDoor
open Go Go.RowKit Go.Sort Sx
end Go.Proofs.YtfkfficabeclcaaGreatDoor

namespace Go.Proofs.YtfkfficabeclcaaGreatDoor
open Go Go.RowKit Go.Sort Sx
end Go.Proofs.YtfkfficabeclcaaGreatDoor

namespace Go.Proofs.YtfkfficabeclcaaGreatDoor
open Go Go.RowKit Go.Sort Sx
set_option maxRecDepth 2000
theorem Rp.eq_iff {p q:Rp}:p=q↔p.e=q.e∧p.i=q.i∧p.j=q.j∧(p.n=q.n∧p.d=q.d)∧p.ms=q.ms:=by
 cases p;cases q;simp [and_assoc]
abbrev retD (x:Md × Rp × Int):DV:=.tup [x.1.dc,x.2.1.dc,.one (i64 x.2.2)]
end Go.Proofs.YtfkfficabeclcaaGreatDoor

namespace Go.Proofs.YtfkfficabeclcaaGreatDoor
open Go Go.RowKit Go.Sort Sx
set_option maxRecDepth 2000
end Go.Proofs.YtfkfficabeclcaaGreatDoor

namespace Go.Proofs.YtfkfficabeclcaaGreatDoor
open Go Go.RowKit Go.Sort Sx
set_option maxRecDepth 2000
end Go.Proofs.YtfkfficabeclcaaGreatDoor

namespace Go.Proofs.YtfkfficabeclcaaGreatDoor
open Go Go.RowKit Go.Sort Sx
set_option maxRecDepth 2000
end Go.Proofs.YtfkfficabeclcaaGreatDoor

namespace Go.Proofs.YtfkfficabeclcaaGreatDoor
open Go Go.RowKit Go.Sort Sx
set_option maxRecDepth 2000
end Go.Proofs.YtfkfficabeclcaaGreatDoor

namespace Go.Proofs.YtfkfficabeclcaaGreatDoor
open Go.RowKit Go.Sort Sx Go.Lib
def endL (l:List Str):Str:=l.flatMap fun x=>x++[10]
theorem spl_end:∀ {l:List Str},(∀ x∈l,(10:UInt8) ∉ x)→spl 10 (endL l)=l++[[]]
 | [],_=>rfl
 | x::l,h=>by
  have e:endL (x::l)=x++10::endL l:=by unfold endL;rw [List.flatMap_cons,List.append_assoc];rfl
  rw [e,spl_at _ (h x (List.mem_cons_self ..)),spl_end (fun y hy=>h y (List.mem_cons_of_mem _ hy))];rfl
theorem itoa_no10 (n:Int):(10:UInt8) ∉ itoa n:=itoa_no (by decide) (by decide)
theorem dec_len_le {u k:Nat} (hk:1≤k) (h:u<10 ^ k):(decDigits u).length≤k:=by
 rw [decDigits_length]
 have:∀ (j u:Nat),u<10 ^ (j+1)→nDigits u≤j+1:=by
  intro j
  induction j with
  | zero=>intro u hu;rw [nDigits_small (by simpa using hu)];exact Nat.le_refl _
  | succ j ih2 =>
   intro u hu
   by_cases h10:u<10
   ·rw [nDigits_small h10];omega
   ·rw [nDigits_big h10]
    have:=ih2 (u / 10) (by rw [Nat.pow_succ] at hu;omega)
    omega
 obtain ⟨j,rfl⟩:∃ j,k=j+1:=⟨k-1,by omega⟩
 exact this j u h
theorem itoa_len_le {n:Int} {k:Nat} (hk:1≤k) (h:n.natAbs<10 ^ k):(itoa n).length≤k+1:=by
 unfold itoa
 split
 ·rw [List.length_cons];have:=dec_len_le hk h;omega
 ·have:=dec_len_le (u:=n.toNat) hk (Nat.lt_of_le_of_lt (by omega) h)
  omega
end Go.Proofs.YtfkfficabeclcaaGreatDoor

namespace Go.Proofs.YtfkfficabeclcaaGreatDoor
open Go.RowKit Go.Sort Sx Go.Lib
def mWords (m:Mt):List Str:=[(numV m.n m.d).1,itoa m.i,itoa m.j]
def atoV (s:Str):Option Int:=match atoiAll s with|.ok v=>some v|_=>none
def frV (s:Str):Option (Int × Int):=if (readV s).2=0 then some (readV s).1 else none
def smV (s:Str) (hi:Int):Int × Bool:=((wholeR s).1,(wholeR s).2 && (decide (0≤(wholeR s).1) && decide ((wholeR s).1≤hi)))
theorem spl_join:∀ {l:List Str},l≠[]→(∀ x∈l,(32:UInt8) ∉ x)→spl 32 (joinS l)=l
 | [],h,_=>absurd rfl h
 | [a],_,h=>by
  show spl 32 a=[a]
  exact spl_no (h a (by simp))
 | a::b::l,_,h=>by
  show spl 32 (a++32::joinS (b::l))=_
  rw [spl_at _ (h a (by simp)),spl_join (l:=b::l) (by simp) fun x hx=>h x (List.mem_cons_of_mem _ hx)]
theorem num_no32 (n d:Int):(32:UInt8) ∉ (numV n d).1:=by
 unfold numV
 split
 ·exact wrt_no32 n d
 ·simp
theorem dec_ne2 (u:Nat):∃ b r,decDigits u=b::r∧b≠45∧b≠43:=by
 have hd:=decFrom_dec u
 cases h:decDigits u with
 | nil =>
  have:=decDigits_length u
  rw [h] at this
  have h2:0<nDigits u:=by
   by_cases h10:u<10
   ·rw [nDigits_small h10];omega
   ·rw [nDigits_big (by omega)];omega
  simp at this
  omega
 | cons b r =>
  rw [h,decFrom] at hd
  refine ⟨b,r,rfl,?_,?_⟩
  ·rintro rfl;cases hd
  ·rintro rfl;cases hd
theorem decNat_dec (u:Nat):decNat (decDigits u)=some u:=by
 obtain ⟨b,r,h,_⟩:=dec_ne2 u
 unfold decNat
 rw [if_neg (by rw [h];simp),decFrom_dec]
theorem atoi_itoa (n:Int):atoi (itoa n)=some n:=by
 unfold itoa
 split
 ·rename_i h
  unfold atoi
  simp only [beq_self_eq_true,if_true]
  rw [decNat_dec]
  simp
  omega
 ·rename_i h
  obtain ⟨b,r,hb,h1,h2⟩:=dec_ne2 n.toNat
  have e:=decNat_dec n.toNat
  rw [hb] at e ⊢
  unfold atoi
  simp only [beq_iff_eq,h1,h2,if_false]
  rw [e]
  simp
  omega
theorem atoV_itoa {n:Int} (h:n.natAbs<10 ^ 17):atoV (itoa n)=some n:=by
 have hl:=itoa_len_le (n:=n) (k:=17) (by decide) h
 unfold atoV
 rw [atoiAll_short _ (by omega),atoi_itoa]
 rfl
theorem atoV_id {n:Int} (h0:0≤n) (h1:n≤65535):atoV (itoa n)=some n:=atoV_itoa (by rw [show (10:Nat) ^ 17=100000000000000000 by decide];omega)
end Go.Proofs.YtfkfficabeclcaaGreatDoor

namespace Go.Proofs.YtfkfficabeclcaaGreatDoor
open Go.RowKit Go.Sort Sx Go.Lib
def fit2 (n d:Int):Prop:=fitI n∧fitI d
theorem frV_of {n d:Int} (h:chk n d=0) (hf:fit2 n d):frV (numV n d).1=some (n,d):=by
 unfold frV
 rw [show (numV n d).1=wrtV n d by unfold numV;rw [if_pos h],readV_is.of n d h hf.1 hf.2]
 rfl
theorem frV_fit {s:Str} {q:Int × Int} (h:frV s=some q):fit2 q.1 q.2:=by
 unfold frV at h
 split at h
 ·rename_i h0
  injection h with h
  subst h
  exact readV_is.fit s h0
 ·cases h
theorem smV_of {n hi:Int} (h0:0≤n) (h1:n≤hi) (h2:hi≤65535):smV (itoa n) hi=(n,true):=by
 unfold smV
 rw [wholeR_itoa (by unfold fitI;omega)]
 simp [h0,h1]
end Go.Proofs.YtfkfficabeclcaaGreatDoor

namespace Go.Proofs.YtfkfficabeclcaaGreatDoor
open Go.RowKit Go.Sort Sx Go.Lib
end Go.Proofs.YtfkfficabeclcaaGreatDoor

namespace Go.Proofs.YtfkfficabeclcaaGreatDoor
open Go Go.RowKit Go.Sort Sx
open Go.Lib hiding intOf
end Go.Proofs.YtfkfficabeclcaaGreatDoor
