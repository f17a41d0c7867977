import Derived.Test.YtfkfficabeclcaaGreatDoorGLTBackAR
import Derived.Test.YtfkfficabeclcaaGreatDoorGLTBackAP
import Derived.Lib.ItoaLen
import Derived.Lib.Atoi
import Derived.Test.YtfkfficabeclcaaGreatDoorGLTBackAL
import Derived.Test.YtfkfficabeclcaaGreatDoorGLTBackAJ
import Derived.ScopeJumps
import Derived.WalkMore
import Derived.Lib.Split
import Derived.Lib.Join
import Derived.Lib.CutLaws
import Derived.Test.YtfkfficabeclcaaGreatDoorGLTBackAO
set_option linter.all false
namespace Go.Proofs.YtfkfficabeclcaaGreatDoor
open Go Go.RowKit Go.Sort Sx
theorem rmBefore_fn {a b:Mt} (h1:chk a.n a.d=0) (h2:chk b.n b.d=0):FnOK Tryz.prog 119 [a.dc,b.dc] (.c (.one (bol (decide (mlt a b))))):=by
 have H:=rcompare_fn a.n a.d b.n b.d
 have q1:=qv_ltM h1 h2
 have q2:=qv_ltM h2 h1
 have e:cmpN (a.n*b.d) (b.n*a.d) = -1∧mlt a b∨cmpN (a.n*b.d) (b.n*a.d)=1∧¬ mlt a b∨cmpN (a.n*b.d) (b.n*a.d)=0∧(mlt a b↔(a.i<b.i∨a.i=b.i∧a.j<b.j)):=by
  unfold cmpN mlt
  by_cases c1:a.n*b.d<b.n*a.d
  ·exact .inl ⟨if_pos c1,.inl (q1.2 c1)⟩
  ·by_cases c2:a.n*b.d > b.n*a.d
   ·have k:=q2.2 c2
    exact .inr (.inl ⟨by rw [if_neg c1,if_pos c2],fun h=>h.elim (fun h=>c1 (q1.1 h)) fun h=>by rw [h.1] at k;exact Rat.lt_irrefl k⟩)
   ·have k:qv a.n a.d=qv b.n b.d:=Rat.le_antisymm (Rat.not_lt.1 fun h=>c2 (q2.1 h)) (Rat.not_lt.1 fun h=>c1 (q1.1 h))
    refine .inr (.inr ⟨by rw [if_neg c1,if_neg c2],?_⟩)
    rw [k]
    have:=Rat.lt_irrefl (a:=qv b.n b.d)
    simp only [this,false_or,true_and]
 generalize cmpN (a.n*b.d) (b.n*a.d)=z at *
 simp only [ret1] at H
 rcases e with ⟨rfl,e⟩|⟨rfl,e⟩|⟨rfl,e⟩
 ·rw [decide_eq_true e]
  refine fn_ok (by kernel_rfl) ty_ok Tryz.func119 rfl (fun _ _=>Tryz.call119 _ _) rfl ?_
  intro hw
  clear hw q1 q2
  exact zw
 ·rw [decide_eq_false e]
  refine fn_ok (by kernel_rfl) ty_ok Tryz.func119 rfl (fun _ _=>Tryz.call119 _ _) rfl ?_
  intro hw
  clear hw q1 q2
  exact zw
 ·refine fn_ok (by kernel_rfl) ty_ok Tryz.func119 rfl (fun _ _=>Tryz.call119 _ _) rfl ?_
  intro hw
  clear hw q1 q2
  repeat' ((conv=>whnf);first|(with_reducible first|refine br_t ?_|refine br_f ?_|refine za ?_|refine zg ?_)|refine zp ?_|refine zq ?_|(with_reducible first|refine bc (fun h => ?_) (fun h => ?_)|refine zt ?_|refine zf ?_|refine br_i (fun h => ?_) (fun h => ?_))|refine zg ?_|refine zi ?_|refine zb ?_)
  all_goals conv=>whnf
  all_goals
   refine r_bool ?_
   rw [decide_eq_decide,e]
   omega
structure InsO (L0:List Mt) (i:Nat) (L:List Mt):Prop where
 p:L.Perm L0
 o:∀ a b (h:a<b) (hb:b<L.length),b<i→¬ mlt L[b] L[a]
structure InsI (L0:List Mt) (i k:Nat) (L:List Mt):Prop where
 p:L.Perm L0
 hk:k≤i
 hi:i<L.length
 o:∀ a b (h:a<b) (hb:b<L.length),b≤i→b≠k→¬ mlt L[b] L[a]
def swp (L:List Mt) (k:Nat) (h:k<L.length):List Mt:=(L.set k L[k-1]).set (k-1) L[k]
theorem swp_len {L:List Mt} {k:Nat} (h:k<L.length):(swp L k h).length=L.length:=by simp [swp]
theorem swp_get {L:List Mt} {k:Nat} (h:k<L.length) (h0:0<k) {b:Nat} (hb:b<(swp L k h).length) :
  (swp L k h)[b]=if b=k-1 then L[k] else if b=k then L[k-1] else L[b]'(by rw [swp_len] at hb;exact hb):=by
 simp only [swp,List.getElem_set,eq_comm (b:=b)]
theorem swap_at {x y:Mt} {l r:List Mt}:(l++y::x::r).Perm (l++x::y::r):=List.Perm.append_left l (List.Perm.swap ..)
theorem swp_perm {L:List Mt} {k:Nat} (h:k<L.length) (h0:0<k):(swp L k h).Perm L:=by
 obtain ⟨j,rfl⟩:∃ j,k=j+1:=⟨k-1,by omega⟩
 have e1:L=L.take j++L[j]::L[j+1]::L.drop (j+2):=by
  rw [← List.drop_eq_getElem_cons h,← List.drop_eq_getElem_cons (by omega),List.take_append_drop]
 have e2:swp L (j+1) h=L.take j++L[j+1]::L[j]::L.drop (j+2):=by
  refine List.ext_getElem (by rw [swp_len];simp;omega) fun b h1 h2 => ?_
  rw [swp_get h h0]
  rw [swp_len] at h1
  simp only [Nat.add_sub_cancel]
  rcases Nat.lt_trichotomy b j with c|c|c
  ·rw [if_neg (by omega),if_neg (by omega),List.getElem_append_left (by simp;omega),List.getElem_take]
  ·subst c
   have hm:min b L.length=b:=Nat.min_eq_left (by omega)
   rw [if_pos rfl,List.getElem_append_right (by rw [List.length_take];omega)]
   simp only [List.length_take,hm,Nat.sub_self,List.getElem_cons_zero]
  ·rw [if_neg (by omega),List.getElem_append_right (by simp;omega)]
   by_cases c1:b=j+1
   ·subst c1
    have key:∀ q,q=1→∀ (hq:q<(L[j+1]::L[j]::List.drop (j+2) L).length),(L[j+1]::L[j]::List.drop (j+2) L)[q]=L[j]:=by rintro _ rfl _;rfl
    rw [if_pos rfl]
    exact (key _ (by rw [List.length_take];omega) _).symm
   ·obtain ⟨d,rfl⟩:∃ d,b=j+(d+2):=⟨b-j-2,by omega⟩
    rw [if_neg c1]
    simp only [List.length_take,Nat.min_eq_left (show j≤L.length by omega),Nat.add_sub_cancel_left,List.getElem_cons_succ,List.getElem_drop]
    exact getElem_congr rfl (by omega) _
 rw [e2]
 conv=>rhs;rw [e1]
 exact swap_at
theorem InsI.start {L0 L:List Mt} {i:Nat} (H:InsO L0 i L) (h:i<L.length):InsI L0 i i L:=⟨H.p,Nat.le_refl _,h,fun a b h hb h1 h2=>H.o a b h hb (by omega)⟩
theorem InsI.next {L0 L:List Mt} {i k:Nat} (H:InsI L0 i k L) (h0:0<k) (hl:mlt (L[k]'(Nat.lt_of_le_of_lt H.hk H.hi)) (L[k-1]'(by have:=H.hk;have:=H.hi;omega))):InsI L0 i (k-1) (swp L k (Nat.lt_of_le_of_lt H.hk H.hi)):=by
 have hk:=H.hk
 have hi:=H.hi
 refine ⟨(List.Perm.trans ?_ H.p),by omega,by rw [swp_len];exact hi,fun a b h hb h1 h2 => ?_⟩
 ·exact swp_perm _ h0
 ·have hb':=hb
  rw [swp_len] at hb'
  rw [swp_get _ h0,swp_get _ h0]
  rw [if_neg h2]
  by_cases c1:b=k
  ·rw [if_pos c1]
   by_cases c2:a=k-1
   ·rw [if_pos c2];exact fun h=>mlt_asymm h hl
   ·rw [if_neg c2,if_neg (by omega)]
    exact H.o a (k-1) (by omega) (by omega) (by omega) (by omega)
  ·rw [if_neg c1]
   by_cases c2:a=k-1
   ·rw [if_pos c2]
    exact H.o k b (by omega) hb' h1 c1
   ·rw [if_neg c2]
    by_cases c3:a=k
    ·rw [if_pos c3]
     exact H.o (k-1) b (by omega) hb' h1 c1
    ·rw [if_neg c3]
     exact H.o a b h hb' h1 c1
theorem InsO.done {L0 L:List Mt} {i:Nat} (H:InsO L0 i L) (hok:∀ m∈L0,chk m.n m.d=0) (hi:L.length≤i):L=msrt L0:=by
 refine List.Perm.eq_of_pairwise (le:=fun a b=>¬ mlt b a) (fun a b ha hb h1 h2 => ?_) ?_ (msrt_sorted L0) (H.p.trans (msrt_perm L0).symm)
 ·exact mlt_eq (hok a (H.p.mem_iff.1 ha)) (hok b (msrt_mem.1 hb)) h2 h1
 ·exact List.pairwise_iff_getElem.2 fun a b ha hb h=>H.o a b h hb (by omega)
end Go.Proofs.YtfkfficabeclcaaGreatDoor

namespace Go.Proofs.YtfkfficabeclcaaGreatDoor
open Go Go.RowKit Go.Sort Sx
theorem wd_mts {l:List Mt} (h:WD (mts l)):l.length≤9223372036854775807:=by
 obtain ⟨h1,_,h3⟩:=WD_list.1 h
 simpa using h1
theorem Mt.eq_iff {p q:Mt}:p=q↔p.n=q.n∧p.d=q.d∧p.i=q.i∧p.j=q.j:=by
 cases p;cases q;simp
theorem eqMt_fn (a b:List Mt):FnOK Tryz.prog 82 [.one (mts a),.one (mts b)] (.c (.one (bol (decide (a=b))))):=by
 refine fn_ok (by kernel_rfl) ty_ok Tryz.func82 rfl (fun _ _=>Tryz.call82 _ _) rfl ?_
 intro hw
 simp only [WDCs,WDC,WDs] at hw
 have w1:=wd_mts hw.1
 have w2:=wd_mts hw.2.1
 clear hw
 by_cases h0:a.length=b.length
 ·repeat' ((conv=>whnf);first|(with_reducible first|refine br_t ?_|refine br_f ?_|refine za ?_|refine zg ?_)|rw [List.length_map]|refine zp ?_|refine zq ?_|(with_reducible first|refine bc (fun h => ?_) (fun h => ?_)|refine zt ?_|refine zf ?_|refine br_i (fun h => ?_) (fun h => ?_)|refine xi (pv_bool fun _=>nev31 _ _ _ _ _ _ _ _ _ _ _) ?_)|refine zg ?_|refine zi ?_|refine zb ?_)
  refine loop_J (by kernel_rfl) ty_ok (σ:=Nat) (fun i=>[(13,sV (.int .i64 i))]) (fun _=>[]) (fun i=>i≤a.length∧a.take i=b.take i) (fun i=>a.length-i) 0 ⟨by omega,rfl⟩ ?_ ?_
  ·(conv=>whnf);exact zent
  rintro i ⟨hi,hI⟩
  rcases Nat.lt_or_ge i a.length with hlt|hge
  ·have hb:i<b.length:=by omega
   have he1:=mts_get hlt
   have he2:=mts_get hb
   by_cases hc:a[i]=b[i]
   ·have hq:=Mt.eq_iff.1 hc
    repeat' ((conv=>whnf);first|(with_reducible first|refine br_t ?_|refine br_f ?_|refine za ?_|refine zg ?_)|rw [List.length_map]|refine zp ?_|refine zq ?_|(with_reducible first|refine bc (fun h => ?_) (fun h => ?_)|refine zt ?_|refine zf ?_|refine br_i (fun h => ?_) (fun h => ?_)|refine xi (pv_bool fun _=>nev31 _ _ _ _ _ _ _ _ _ _ _) ?_)|refine zg ?_|refine zi ?_|refine zb ?_)
    all_goals conv=>whnf
    refine ⟨i+1,⟨by omega,take_succ_eq hI hlt hb hc⟩,?_,by omega⟩
    (conv=>whnf);exact zent
   ·have hq:=mt Mt.eq_iff.2 hc
    rw [decide_eq_false (ne_of_get hlt hb hc)]
    repeat' ((conv=>whnf);first|(with_reducible first|refine br_t ?_|refine br_f ?_|refine za ?_|refine zg ?_)|rw [List.length_map]|refine zp ?_|refine zq ?_|(with_reducible first|refine bc (fun h => ?_) (fun h => ?_)|refine zt ?_|refine zf ?_|refine br_i (fun h => ?_) (fun h => ?_)|refine xi (pv_bool fun _=>nev31 _ _ _ _ _ _ _ _ _ _ _) ?_)|refine zg ?_|refine zi ?_|refine zb ?_)
    all_goals conv=>whnf
    all_goals rfl
  ·rw [decide_eq_true (take_all_eq hI h0 hge)]
   repeat' ((conv=>whnf);first|(with_reducible first|refine br_t ?_|refine br_f ?_|refine za ?_|refine zg ?_)|rw [List.length_map]|refine zp ?_|refine zq ?_|(with_reducible first|refine bc (fun h => ?_) (fun h => ?_)|refine zt ?_|refine zf ?_|refine br_i (fun h => ?_) (fun h => ?_)|refine xi (pv_bool fun _=>nev31 _ _ _ _ _ _ _ _ _ _ _) ?_)|refine zg ?_|refine zi ?_|refine zb ?_)
   all_goals conv=>whnf
   all_goals rfl
 ·rw [decide_eq_false (fun h=>h0 (congrArg List.length h))]
  repeat' ((conv=>whnf);first|(with_reducible first|refine br_t ?_|refine br_f ?_|refine za ?_|refine zg ?_)|rw [List.length_map]|refine zp ?_|refine zq ?_|(with_reducible first|refine bc (fun h => ?_) (fun h => ?_)|refine zt ?_|refine zf ?_|refine br_i (fun h => ?_) (fun h => ?_)|refine xi (pv_bool fun _=>nev31 _ _ _ _ _ _ _ _ _ _ _) ?_)|refine zg ?_|refine zi ?_|refine zb ?_)
  all_goals conv=>whnf
  all_goals rfl
theorem rmSame_fn (a b:List Mt):FnOK Tryz.prog 53 [.one (mts a),.one (mts b)] (.c (.one (bol (decide (a=b))))):=by
 refine fn_ok (by kernel_rfl) ty_ok Tryz.func53 rfl (fun _ _=>Tryz.call53 _ _) rfl ?_
 intro hw
 simp only [WDCs,WDC,WDs] at hw
 have w1:=wd_mts hw.1
 have w2:=wd_mts hw.2.1
 clear hw
 by_cases h0:a.length=b.length
 ·repeat' ((conv=>whnf);first|(with_reducible first|refine br_t ?_|refine br_f ?_|refine za ?_|refine zg ?_)|rw [List.length_map]|refine zp ?_|refine zq ?_|(with_reducible first|refine bc (fun h => ?_) (fun h => ?_)|refine zt ?_|refine zf ?_|refine br_i (fun h => ?_) (fun h => ?_)|refine xi (pv_bool fun _=>nev31 _ _ _ _ _ _ _ _ _ _ _) ?_)|refine zg ?_|refine zi ?_|refine zb ?_)
  refine loop_J (by kernel_rfl) ty_ok (σ:=Nat) (fun i=>[(5,sV (.int .i64 i))]) (fun _=>[]) (fun i=>i≤a.length∧a.take i=b.take i) (fun i=>a.length-i) 0 ⟨by omega,rfl⟩ ?_ ?_
  ·(conv=>whnf);exact zent
  rintro i ⟨hi,hI⟩
  rcases Nat.lt_or_ge i a.length with hlt|hge
  ·have hb:i<b.length:=by omega
   have he1:=mts_get hlt
   have he2:=mts_get hb
   by_cases hc:a[i]=b[i]
   ·have hq:=Mt.eq_iff.1 hc
    repeat' ((conv=>whnf);first|(with_reducible first|refine br_t ?_|refine br_f ?_|refine za ?_|refine zg ?_)|rw [List.length_map]|refine zp ?_|refine zq ?_|(with_reducible first|refine bc (fun h => ?_) (fun h => ?_)|refine zt ?_|refine zf ?_|refine br_i (fun h => ?_) (fun h => ?_)|refine xi (pv_bool fun _=>nev31 _ _ _ _ _ _ _ _ _ _ _) ?_)|refine zg ?_|refine zi ?_|refine zb ?_)
    all_goals conv=>whnf
    refine ⟨i+1,⟨by omega,take_succ_eq hI hlt hb hc⟩,?_,by omega⟩
    (conv=>whnf);exact zent
   ·have hq:=mt Mt.eq_iff.2 hc
    rw [decide_eq_false (ne_of_get hlt hb hc)]
    repeat' ((conv=>whnf);first|(with_reducible first|refine br_t ?_|refine br_f ?_|refine za ?_|refine zg ?_)|rw [List.length_map]|refine zp ?_|refine zq ?_|(with_reducible first|refine bc (fun h => ?_) (fun h => ?_)|refine zt ?_|refine zf ?_|refine br_i (fun h => ?_) (fun h => ?_)|refine xi (pv_bool fun _=>nev31 _ _ _ _ _ _ _ _ _ _ _) ?_)|refine zg ?_|refine zi ?_|refine zb ?_)
    all_goals conv=>whnf
    all_goals rfl
  ·rw [decide_eq_true (take_all_eq hI h0 hge)]
   repeat' ((conv=>whnf);first|(with_reducible first|refine br_t ?_|refine br_f ?_|refine za ?_|refine zg ?_)|rw [List.length_map]|refine zp ?_|refine zq ?_|(with_reducible first|refine bc (fun h => ?_) (fun h => ?_)|refine zt ?_|refine zf ?_|refine br_i (fun h => ?_) (fun h => ?_)|refine xi (pv_bool fun _=>nev31 _ _ _ _ _ _ _ _ _ _ _) ?_)|refine zg ?_|refine zi ?_|refine zb ?_)
   all_goals conv=>whnf
   all_goals rfl
 ·rw [decide_eq_false (fun h=>h0 (congrArg List.length h))]
  repeat' ((conv=>whnf);first|(with_reducible first|refine br_t ?_|refine br_f ?_|refine za ?_|refine zg ?_)|rw [List.length_map]|refine zp ?_|refine zq ?_|(with_reducible first|refine bc (fun h => ?_) (fun h => ?_)|refine zt ?_|refine zf ?_|refine br_i (fun h => ?_) (fun h => ?_)|refine xi (pv_bool fun _=>nev31 _ _ _ _ _ _ _ _ _ _ _) ?_)|refine zg ?_|refine zi ?_|refine zb ?_)
  all_goals conv=>whnf
  all_goals rfl
end Go.Proofs.YtfkfficabeclcaaGreatDoor

namespace Go.Proofs.YtfkfficabeclcaaGreatDoor
open Go Go.RowKit Go.Sort Sx
end Go.Proofs.YtfkfficabeclcaaGreatDoor

namespace Go.Proofs.YtfkfficabeclcaaGreatDoor
open Go Go.RowKit Go.Sort Sx
end Go.Proofs.YtfkfficabeclcaaGreatDoor

namespace Go.Proofs.YtfkfficabeclcaaGreatDoor
open Go Go.RowKit Go.Sort Sx
set_option maxRecDepth 2000
theorem Rp.eq_iff {p q:Rp}:p=q↔p.e=q.e∧p.i=q.i∧p.j=q.j∧(p.n=q.n∧p.d=q.d)∧p.ms=q.ms:=by
 cases p;cases q;simp [and_assoc]
abbrev retD (x:Md × Rp × Int):DV:=.tup [x.1.dc,x.2.1.dc,.one (i64 x.2.2)]
theorem oSame_fn (a b:Rp):FnOK Tryz.prog 42 [a.dc,b.dc] (.c (.one (bol (decide (a=b))))):=by
 have H:=eqMt_fn a.ms b.ms
 have e:=Rp.eq_iff (p:=a) (q:=b)
 by_cases c:a.ms=b.ms
 ·rw [decide_eq_true c] at H
  simp only [c,and_true] at e
  refine fn_ok (by kernel_rfl) ty_ok Tryz.func42 rfl (fun _ _=>Tryz.call42 _ _) rfl ?_
  intro hw
  clear hw
  repeat' ((conv=>whnf);first|(with_reducible first|refine br_t ?_|refine br_f ?_|refine za ?_|refine zg ?_)|refine zp ?_|refine zq ?_|(with_reducible first|refine bc (fun h => ?_) (fun h => ?_)|refine zt ?_|refine zf ?_|refine br_i (fun h => ?_) (fun h => ?_)|refine xi (pv_bool fun _=>eqv25 _ _ _ _ _ _ _) ?_)|refine zg ?_|refine zi ?_|refine zb ?_)
  all_goals conv=>whnf
  all_goals
   refine r_bool ?_
   rw [Bool.eq_iff_iff]
   rw [decide_eq_true_eq,e]
   first|(refine iff_of_true rfl ?_;omega)|(refine iff_of_false (by decide) ?_;omega)
 ·rw [decide_eq_false c] at H
  simp only [c,and_false,iff_false] at e
  rw [decide_eq_false e]
  refine fn_ok (by kernel_rfl) ty_ok Tryz.func42 rfl (fun _ _=>Tryz.call42 _ _) rfl ?_
  intro hw
  clear hw
  repeat' ((conv=>whnf);first|(with_reducible first|refine br_t ?_|refine br_f ?_|refine za ?_|refine zg ?_)|refine zp ?_|refine zq ?_|(with_reducible first|refine bc (fun h => ?_) (fun h => ?_)|refine zt ?_|refine zf ?_|refine br_i (fun h => ?_) (fun h => ?_)|refine xi (pv_bool fun _=>eqv25 _ _ _ _ _ _ _) ?_)|refine zg ?_|refine zi ?_|refine zb ?_)
  all_goals conv=>whnf
  all_goals rfl
theorem roSame_fn (a b:Rp):FnOK Tryz.prog 19 [a.dc,b.dc] (.c (.one (bol (decide (a=b))))):=by
 have H:=rmSame_fn a.ms b.ms
 have e:=Rp.eq_iff (p:=a) (q:=b)
 by_cases c:a.ms=b.ms
 ·rw [decide_eq_true c] at H
  simp only [c,and_true] at e
  refine fn_ok (by kernel_rfl) ty_ok Tryz.func19 rfl (fun _ _=>Tryz.call19 _ _) rfl ?_
  intro hw
  clear hw
  repeat' ((conv=>whnf);first|(with_reducible first|refine br_t ?_|refine br_f ?_|refine za ?_|refine zg ?_)|refine zp ?_|refine zq ?_|(with_reducible first|refine bc (fun h => ?_) (fun h => ?_)|refine zt ?_|refine zf ?_|refine br_i (fun h => ?_) (fun h => ?_)|refine xi (pv_bool fun _=>eqv25 _ _ _ _ _ _ _) ?_)|refine zg ?_|refine zi ?_|refine zb ?_)
  all_goals conv=>whnf
  all_goals
   refine r_bool ?_
   rw [Bool.eq_iff_iff]
   rw [decide_eq_true_eq,e]
   first|(refine iff_of_true rfl ?_;omega)|(refine iff_of_false (by decide) ?_;omega)
 ·rw [decide_eq_false c] at H
  simp only [c,and_false,iff_false] at e
  rw [decide_eq_false e]
  refine fn_ok (by kernel_rfl) ty_ok Tryz.func19 rfl (fun _ _=>Tryz.call19 _ _) rfl ?_
  intro hw
  clear hw
  repeat' ((conv=>whnf);first|(with_reducible first|refine br_t ?_|refine br_f ?_|refine za ?_|refine zg ?_)|refine zp ?_|refine zq ?_|(with_reducible first|refine bc (fun h => ?_) (fun h => ?_)|refine zt ?_|refine zf ?_|refine br_i (fun h => ?_) (fun h => ?_)|refine xi (pv_bool fun _=>eqv25 _ _ _ _ _ _ _) ?_)|refine zg ?_|refine zi ?_|refine zb ?_)
  all_goals conv=>whnf
  all_goals rfl
end Go.Proofs.YtfkfficabeclcaaGreatDoor

namespace Go.Proofs.YtfkfficabeclcaaGreatDoor
open Go Go.RowKit Sx
namespace Sx
def shMeeting:Sh:=.st (.fc 2 shRatio (.fc 1 shInt (.fc 1 shInt .f0)))
def shReply:Sh:=.st (.fc 1 shInt (.fc 1 shInt (.fc 1 shInt (.fc 2 shRatio (.fc 1 (.sl 4 shMeeting) .f0)))))
end Sx
theorem fits_meeting {ds:List D} (h:Fits shMeeting ds):∃ a:Mt,ds=a.c:=by
 obtain ⟨_,_,rfl,h3,_,_,rfl,⟨i,rfl⟩,_,_,rfl,⟨j,rfl⟩,rfl⟩:=h
 obtain ⟨n,d,rfl⟩:=fits_ratio h3
 exact ⟨⟨n,d,i,j⟩,rfl⟩
theorem fits_reply {ds:List D} (h:Fits shReply ds):∃ a:Rp,ds=a.c:=by
 obtain ⟨_,_,rfl,⟨e,rfl⟩,_,_,rfl,⟨i,rfl⟩,_,_,rfl,⟨j,rfl⟩,_,_,rfl,h3,_,_,rfl,⟨l,rfl,h4⟩,rfl⟩:=h
 obtain ⟨n,d,rfl⟩:=fits_ratio h3
 obtain ⟨l',rfl⟩:=exists_map (f:=Mt.c) fun x hx=>fits_meeting (h4 x hx)
 exact ⟨⟨e,i,j,n,d,l'⟩,rfl⟩
theorem fit_reply {c:DC} (h:FitC shReply c):∃ a:Rp,c=a.dc:=by
 obtain ⟨ds,rfl,h⟩:=h
 obtain ⟨a,rfl⟩:=fits_reply h
 exact ⟨a,rfl⟩
end Go.Proofs.YtfkfficabeclcaaGreatDoor

namespace Go.Proofs.YtfkfficabeclcaaGreatDoor
open Go.RowKit Go.Sort Sx Go.Lib
abbrev Str:=List UInt8
theorem dig_of {k:Nat} (h:k<10):digitVal (UInt8.ofNat (48+k))=some k:=by
 have e:(UInt8.ofNat (48+k)).toNat=48+k:=by
  rw [UInt8.toNat_ofNat'];omega
 unfold digitVal
 rw [e,if_pos ⟨by omega,by omega⟩]
 congr 1;omega
def rdP:Nat→Str→Option Nat
 | n,[]=>some n
 | n,b::l=>match digitVal b with
  | some d=>if 10*n+d≤9223372036854775807 then rdP (10*n+d) l else none
  | none=>none
theorem rdP_app (n:Nat) (l r:Str):rdP n (l++r)=(rdP n l).bind fun m=>rdP m r:=by
 induction l generalizing n with
 | nil=>rfl
 | cons b l ih =>
  rw [List.cons_append,rdP,rdP]
  cases digitVal b with
  | none=>rfl
  | some d =>
   dsimp only
   split
   ·exact ih _
   ·rfl
theorem rdP_dec:∀ (u:Nat),u≤9223372036854775807→rdP 0 (decDigits u)=some u:=by
 intro u
 induction u using Nat.strongRecOn with
 | _ u ih =>
  intro hu
  by_cases h:u<10
  ·rw [decDigits,dif_pos h,rdP,dig_of h]
   dsimp only
   rw [if_pos (by omega),rdP]
   congr 1;omega
  ·rw [decDigits,dif_neg h,rdP_app,ih (u / 10) (by omega) (by omega)]
   show rdP (u / 10) _=_
   rw [rdP,dig_of (Nat.mod_lt _ (by decide))]
   dsimp only
   rw [if_pos (by omega),rdP]
   congr 1;omega
theorem decFrom_app (n:Nat) (l r:Str):decFrom n (l++r)=(decFrom n l).bind fun m=>decFrom m r:=by
 induction l generalizing n with
 | nil=>rfl
 | cons b l ih =>
  rw [List.cons_append,decFrom,decFrom]
  cases digitVal b with
  | none=>rfl
  | some d=>exact ih _
theorem decFrom_dec:∀ (u:Nat),decFrom 0 (decDigits u)=some u:=by
 intro u
 induction u using Nat.strongRecOn with
 | _ u ih =>
  by_cases h:u<10
  ·rw [decDigits,dif_pos h,decFrom,dig_of h]
   dsimp only
   rw [decFrom]
   congr 1;omega
  ·rw [decDigits,dif_neg h,decFrom_app,ih (u / 10) (by omega)]
   show decFrom (u / 10) _=_
   rw [decFrom,dig_of (Nat.mod_lt _ (by decide))]
   dsimp only
   rw [decFrom]
   congr 1;omega
theorem dec_mem:∀ (u:Nat),∀ b∈decDigits u,48≤b.toNat∧b.toNat≤57:=by
 intro u
 induction u using Nat.strongRecOn with
 | _ u ih =>
  have key:∀ k:Nat,k<10→48≤(UInt8.ofNat (48+k)).toNat∧(UInt8.ofNat (48+k)).toNat≤57:=fun k h=>by
   rw [UInt8.toNat_ofNat'];omega
  intro b hb
  by_cases h:u<10
  ·rw [decDigits,dif_pos h,List.mem_singleton] at hb
   subst hb;exact key u h
  ·rw [decDigits,dif_neg h] at hb
   rcases List.mem_append.1 hb with hb|hb
   ·exact ih (u / 10) (by omega) b hb
   ·rw [List.mem_singleton] at hb
    subst hb;exact key _ (Nat.mod_lt _ (by decide))
theorem dec_head {u:Nat} {r:Str}:decDigits u≠45::r:=fun h=>by
 have:=dec_mem u 45 (by rw [h];exact List.mem_cons_self ..)
 exact absurd this.1 (by decide)
abbrev fitI (n:Int):Prop := -9223372036854775807≤n∧n≤9223372036854775807
def wholeV (s:Str):Int × Bool:=match s with
 | 45::r=>(match rdP 0 r with|some n=>(-(n:Int),decide (itoa (-(n:Int))=s))|none=>(0,false))
 | _=>(match rdP 0 s with|some n=>((n:Int),decide (itoa (n:Int)=s))|none=>(0,false))
theorem itoa_neg {n:Nat} (h:0<n):itoa (-(n:Int))=45::decDigits n:=by
 unfold itoa
 rw [if_pos (by omega)]
 congr 2;omega
theorem itoa_pos (n:Nat):itoa (n:Int)=decDigits n:=by
 unfold itoa
 rw [if_neg (by omega)]
 congr 1
theorem rdP_le:∀ {l:Str} {n m:Nat},n≤9223372036854775807→rdP n l=some m→m≤9223372036854775807
 | [],n,m,h,e=>by rw [rdP] at e;injection e with e;omega
 | b::l,n,m,h,e=>by
  rw [rdP] at e
  split at e
  ·split at e
   ·rename_i hle;exact rdP_le hle e
   ·cases e
  ·cases e
theorem whole_ok {s:Str} (h:(wholeV s).2=true):fitI (wholeV s).1∧itoa (wholeV s).1=s:=by
 unfold wholeV at h ⊢
 split at h
 ·rename_i r
  cases e:rdP 0 r with
  | none=>rw [e] at h;cases h
  | some n =>
   rw [e] at h
   have:=rdP_le (by omega) e
   exact ⟨⟨by dsimp only;omega,by dsimp only;omega⟩,of_decide_eq_true h⟩
 ·cases e:rdP 0 s with
  | none=>rw [e] at h;cases h
  | some n =>
   rw [e] at h
   have:=rdP_le (by omega) e
   exact ⟨⟨by dsimp only;omega,by dsimp only;omega⟩,of_decide_eq_true h⟩
theorem whole_itoa {n:Int} (h:fitI n):wholeV (itoa n)=(n,true):=by
 obtain ⟨h1,h2⟩:=h
 rcases Int.lt_or_le n 0 with h0|h0
 ·obtain ⟨k,hk,rfl⟩:∃ k:Nat,0<k∧n = -(k:Int):=⟨n.natAbs,by omega,by omega⟩
  rw [itoa_neg hk]
  show (match rdP 0 (decDigits k) with|some n=>(-(n:Int),decide (itoa (-(n:Int))=45::decDigits k))|none=>(0,false))=_
  rw [rdP_dec k (by omega)]
  dsimp only
  rw [itoa_neg hk,decide_eq_true rfl]
 ·obtain ⟨k,rfl⟩:∃ k:Nat,n=(k:Int):=⟨n.toNat,by omega⟩
  rw [itoa_pos]
  unfold wholeV
  split
  ·rename_i r e;exact absurd e dec_head
  ·rw [rdP_dec k (by omega)]
   dsimp only
   rw [itoa_pos,decide_eq_true rfl]
end Go.Proofs.YtfkfficabeclcaaGreatDoor

namespace Go.Proofs.YtfkfficabeclcaaGreatDoor
open Go Go.RowKit Go.Sort Sx
open Go.Lib hiding intOf
theorem fmt_fn {n:Int}:FnOK Tryz.prog 76 [.one (i64 n),.one (i64 10)] (.c (.one (str (itoa n)))) :=
 fn_of_callsG (fun _ _=>Tryz.call76 _ _) rfl rfl (fun _=>.v trivial) (fun h w hg=>by
  have hb:=wd_i64.1 h.1
  exact (Tryz.strconv_FormatInt_10 n hb.1 hb.2 w hg.tab).mono fun e w' ⟨he,k,os,hw⟩=>⟨he,by rw [hw];exact below_regrown w (w.drawn+k) os⟩)
theorem ito_fn {n:Int}:FnOK Tryz.prog 77 [.one (i64 n)] (.c (.one (str (itoa n)))) :=
 fn_of_callsG (fun _ _=>Tryz.call77 _ _) rfl rfl (fun _=>.v trivial) (fun h w hg=>by
  have hb:=wd_i64.1 h.1
  exact (Tryz.strconv_Itoa n hb.1 hb.2 w hg.tab).mono fun e w' ⟨he,k,os,hw⟩=>⟨he,by rw [hw];exact below_regrown w (w.drawn+k) os⟩)
theorem pre_fn {s p:Str}:FnOK Tryz.prog 193 [.one (str s),.one (str p)] (.c (.one (bol (Lib.hasPrefix s p)))) :=
 fn_of_callsG (fun _ _=>Tryz.call193 _ _) rfl rfl (fun _=>.v trivial) (fun h w hg=>(Tryz.strings_HasPrefix ⟨s.toArray⟩ ⟨p.toArray⟩ w).mono fun e w' ⟨he,hw⟩=>⟨he,hw ▸ Below.refl _ _⟩)
def finW (s:Str) (fr:Nat) (R:Option Nat):Int × Bool:=match R with
 | some n=>(if fr=1 then -(n:Int) else n,decide (itoa (if fr=1 then -(n:Int) else n)=s))
 | none=>(0,false)
theorem finW_1 {s:Str} {fr n:Nat} (h:fr=1):finW s fr (some n)=(-(n:Int),decide (itoa (-(n:Int))=s)):=by subst h;rfl
theorem finW_0 {s:Str} {fr n:Nat} (h:fr≠1):finW s fr (some n)=((n:Int),decide (itoa (n:Int)=s)):=by unfold finW;dsimp only;rw [if_neg h]
theorem wholeV_fin (s:Str):wholeV s=finW s (if Lib.hasPrefix s [45] then 1 else 0) (rdP 0 (s.drop (if Lib.hasPrefix s [45] then 1 else 0))):=by
 unfold wholeV Lib.hasPrefix
 split
 ·rename_i r
  have e:([45]:Str).isPrefixOf (45::r)=true:=rfl
  rw [e]
  simp only [if_true,List.drop_succ_cons,List.drop_zero]
  rfl
 ·rename_i h
  have e:([45]:Str).isPrefixOf s=false:=by
   cases s with
   | nil=>rfl
   | cons b r =>
    have hb:b≠45:=fun e=>h r (by rw [e])
    simp [List.isPrefixOf,Ne.symm hb]
  rw [e]
  rfl
theorem digit_no {b:UInt8} (h:digitVal b=none):¬ (48≤b.toNat∧b.toNat≤57):=fun k=>by
 unfold digitVal at h
 rw [if_pos k] at h;cases h
theorem digit_some {b:UInt8} {d:Nat} (h:digitVal b=some d):48≤b.toNat∧b.toNat≤57∧d=b.toNat-48:=digitVal_eq h
theorem byte_no {b:UInt8} (h:digitVal b=none):IntKind.u8.wrap ((b.toNat:Int)-48) > 9:=by
 have h1:=digit_no h
 have h2:=b.toNat_lt
 rw [IntKind.wrap_u8]
 omega
theorem byte_some {b:UInt8} {d:Nat} (h:digitVal b=some d):d≤9∧IntKind.u8.wrap ((b.toNat:Int)-48)=(d:Int):=by
 have h1:=digit_some h
 rw [IntKind.wrap_u8]
 omega
theorem quo_of {d:Nat} (h:d≤9):IntKind.i64.wrap ((IntKind.i64.wrap (9223372036854775807-IntKind.i64.wrap (d:Int))).tdiv 10)=(9223372036854775807-(d:Int)) / 10:=by
 rw [IntWalk.i64_in (d:Int) (by omega),IntWalk.i64_in (9223372036854775807-(d:Int)) (by omega),Int.tdiv_eq_ediv_of_nonneg (by omega),IntWalk.i64_in _ (by omega)]
abbrev retWh (x:Int × Bool):DV:=.tup [.one (i64 x.1),.one (bol x.2)]
theorem whole_fn (s:Str) (hs:s.length≤1000000):FnOK Tryz.prog 140 [.one (str s)] (retWh (wholeV s)):=by
 have hpre:=@pre_fn s [45]
 rw [wholeV_fin]
 generalize hp:Lib.hasPrefix s [45]=p at *
 have hfl:(if p=true then 1 else 0)≤s.length:=by
  cases p with
  | false=>exact Nat.zero_le _
  | true =>
   cases s with
   | nil=>cases hp
   | cons b r=>simp
 have hfr:(if p=true then 1 else 0)=0∨(if p=true then 1 else 0)=1:=by cases p<;>simp
 obtain ⟨fr,hfe⟩:∃ fr:Nat,fr=if p=true then 1 else 0:=⟨_,rfl⟩
 rw [← hfe] at hfl hfr ⊢
 generalize hR:rdP 0 (s.drop fr)=R
 have hfm:∀ n:Int,FnOK Tryz.prog 76 [.one (i64 n),.one (i64 10)] (.c (.one (str (itoa n)))):=fun n=>fmt_fn
 refine fn_ok (by kernel_rfl) ty_ok Tryz.func140 rfl (fun _ _=>Tryz.call140 _ _) rfl ?_
 intro hw
 clear hw
 refine scope_J (by kernel_rfl) ty_ok 0 (σ:=Nat × Nat) (fun q=>[(2,sV (.int .i64 0)),(3,sV (.bool false)),(4,sV (.int .i64 (q.1:Nat))),(5,sV (.int .i64 (q.2:Nat))),(6,sV (.int .i64 (fr:Nat)))]) (fun _=>[]) (fun q=>fr≤q.2∧q.2≤s.length∧q.1≤9223372036854775807∧rdP q.1 (s.drop q.2)=R) (fun q=>s.length-q.2) rfl ?_ ?_
 ·cases p
  ·have hfe:fr=0:=hfe
   subst hfe
   cases hb:s[0]? with
   | none =>
    have hk:0=s.length:=by
     have:=List.getElem?_eq_none_iff.1 hb
     omega
    rw [show s.drop 0=[] from List.drop_eq_nil_of_le (by omega),rdP] at hR
    subst hR
    have en:IntKind.i64.wrap (0-0)=0:=by rw [IntWalk.i64_in _ (by omega)];omega
    repeat' ((conv=>whnf);first|(with_reducible first|refine br_t ?_|refine br_f ?_|refine za ?_|refine zg ?_)|refine za ?_ fmt_fn|refine zsl ?_|refine zsg ?_|refine zss ?_|refine zs1 ?_|refine zse ?_|refine zsn ?_|refine zsc ?_|(with_reducible first|refine zpa ?_|refine zqa ?_)|refine zp ?_|refine zq ?_|(with_reducible first|refine bc (fun h => ?_) (fun h => ?_)|refine zt ?_|refine zf ?_|refine br_i (fun h => ?_) (fun h => ?_))|refine zg ?_|refine zi ?_|refine zb ?_)
    all_goals conv=>whnf
    all_goals (first|(rw [en,finW_1 (by omega)];rfl)|(rw [finW_0 (by omega)];rfl))
   | some b =>
    have hk:0<s.length:=(List.getElem?_eq_some_iff.1 hb).1
    have hg:s[((0:Int)).toNat]? = some b:=by rw [show ((0:Int)).toNat=0 from rfl];exact hb
    have hdr:s.drop 0=b::s.drop 1:=by rw [List.drop_eq_getElem_cons hk,(List.getElem?_eq_some_iff.1 hb).2]
    rw [hdr,rdP] at hR
    cases hd:digitVal b with
    | none =>
     rw [hd] at hR
     dsimp only at hR
     subst hR
     have hc:=byte_no hd
     repeat' ((conv=>whnf);first|(with_reducible first|refine br_t ?_|refine br_f ?_|refine za ?_|refine zg ?_)|refine za ?_ fmt_fn|refine zsl ?_|refine zsg ?_|refine zss ?_|refine zs1 ?_|refine zse ?_|refine zsn ?_|refine zsc ?_|(with_reducible first|refine zpa ?_|refine zqa ?_)|refine zp ?_|refine zq ?_|(with_reducible first|refine bc (fun h => ?_) (fun h => ?_)|refine zt ?_|refine zf ?_|refine br_i (fun h => ?_) (fun h => ?_))|refine zg ?_|refine zi ?_|refine zb ?_)
     all_goals conv=>whnf
     all_goals rfl
    | some d =>
     rw [hd] at hR
     simp only [Nat.mul_zero,Nat.zero_add] at hR
     obtain ⟨hd9,hc⟩:=byte_some hd
     have hq:=quo_of hd9
     rw [← hc] at hq
     have h4:d≤9223372036854775807→IntKind.i64.wrap (IntKind.i64.wrap (10*0)+IntKind.i64.wrap (IntKind.u8.wrap ((b.toNat:Int)-48)))=((d:Nat):Int):=fun h=>by
      rw [hc,show IntKind.i64.wrap (10*0)=0 from by decide,IntWalk.i64_in (d:Int) (by omega),IntWalk.i64_in _ (by omega)];omega
     by_cases hle:d≤9223372036854775807
     ·rw [if_pos hle] at hR
      have h4:=h4 hle
      repeat' ((conv=>whnf);first|(with_reducible first|refine br_t ?_|refine br_f ?_|refine za ?_|refine zg ?_)|refine za ?_ fmt_fn|refine zsl ?_|refine zsg ?_|refine zss ?_|refine zs1 ?_|refine zse ?_|refine zsn ?_|refine zsc ?_|(with_reducible first|refine zpa ?_|refine zqa ?_)|refine zp ?_|refine zq ?_|(with_reducible first|refine bc (fun h => ?_) (fun h => ?_)|refine zt ?_|refine zf ?_|refine br_i (fun h => ?_) (fun h => ?_))|refine zg ?_|refine zi ?_|refine zb ?_)
      all_goals conv=>whnf
      refine ⟨(d,1),⟨by simp only;omega,by simp only;omega,hle,hR⟩,?_⟩
      (conv=>whnf);exact zent
     ·exact absurd (by omega) hle
  ·have hfe:fr=1:=hfe
   subst hfe
   cases hb:s[1]? with
   | none =>
    have hk:1=s.length:=by
     have:=List.getElem?_eq_none_iff.1 hb
     omega
    rw [show s.drop 1=[] from List.drop_eq_nil_of_le (by omega),rdP] at hR
    subst hR
    have en:IntKind.i64.wrap (0-0)=0:=by rw [IntWalk.i64_in _ (by omega)];omega
    repeat' ((conv=>whnf);first|(with_reducible first|refine br_t ?_|refine br_f ?_|refine za ?_|refine zg ?_)|refine za ?_ fmt_fn|refine zsl ?_|refine zsg ?_|refine zss ?_|refine zs1 ?_|refine zse ?_|refine zsn ?_|refine zsc ?_|(with_reducible first|refine zpa ?_|refine zqa ?_)|refine zp ?_|refine zq ?_|(with_reducible first|refine bc (fun h => ?_) (fun h => ?_)|refine zt ?_|refine zf ?_|refine br_i (fun h => ?_) (fun h => ?_))|refine zg ?_|refine zi ?_|refine zb ?_)
    all_goals conv=>whnf
    all_goals (first|(rw [en,finW_1 (by omega)];rfl)|(rw [finW_0 (by omega)];rfl))
   | some b =>
    have hk:1<s.length:=(List.getElem?_eq_some_iff.1 hb).1
    have hg:s[((1:Int)).toNat]? = some b:=by rw [show ((1:Int)).toNat=1 from rfl];exact hb
    have hdr:s.drop 1=b::s.drop 2:=by rw [List.drop_eq_getElem_cons hk,(List.getElem?_eq_some_iff.1 hb).2]
    rw [hdr,rdP] at hR
    cases hd:digitVal b with
    | none =>
     rw [hd] at hR
     dsimp only at hR
     subst hR
     have hc:=byte_no hd
     repeat' ((conv=>whnf);first|(with_reducible first|refine br_t ?_|refine br_f ?_|refine za ?_|refine zg ?_)|refine za ?_ fmt_fn|refine zsl ?_|refine zsg ?_|refine zss ?_|refine zs1 ?_|refine zse ?_|refine zsn ?_|refine zsc ?_|(with_reducible first|refine zpa ?_|refine zqa ?_)|refine zp ?_|refine zq ?_|(with_reducible first|refine bc (fun h => ?_) (fun h => ?_)|refine zt ?_|refine zf ?_|refine br_i (fun h => ?_) (fun h => ?_))|refine zg ?_|refine zi ?_|refine zb ?_)
     all_goals conv=>whnf
     all_goals rfl
    | some d =>
     rw [hd] at hR
     simp only [Nat.mul_zero,Nat.zero_add] at hR
     obtain ⟨hd9,hc⟩:=byte_some hd
     have hq:=quo_of hd9
     rw [← hc] at hq
     have h4:d≤9223372036854775807→IntKind.i64.wrap (IntKind.i64.wrap (10*0)+IntKind.i64.wrap (IntKind.u8.wrap ((b.toNat:Int)-48)))=((d:Nat):Int):=fun h=>by
      rw [hc,show IntKind.i64.wrap (10*0)=0 from by decide,IntWalk.i64_in (d:Int) (by omega),IntWalk.i64_in _ (by omega)];omega
     by_cases hle:d≤9223372036854775807
     ·rw [if_pos hle] at hR
      have h4:=h4 hle
      repeat' ((conv=>whnf);first|(with_reducible first|refine br_t ?_|refine br_f ?_|refine za ?_|refine zg ?_)|refine za ?_ fmt_fn|refine zsl ?_|refine zsg ?_|refine zss ?_|refine zs1 ?_|refine zse ?_|refine zsn ?_|refine zsc ?_|(with_reducible first|refine zpa ?_|refine zqa ?_)|refine zp ?_|refine zq ?_|(with_reducible first|refine bc (fun h => ?_) (fun h => ?_)|refine zt ?_|refine zf ?_|refine br_i (fun h => ?_) (fun h => ?_))|refine zg ?_|refine zi ?_|refine zb ?_)
      all_goals conv=>whnf
      refine ⟨(d,2),⟨by simp only;omega,by simp only;omega,hle,hR⟩,?_⟩
      (conv=>whnf);exact zent
     ·exact absurd (by omega) hle
 ·rintro ⟨n,k⟩ ⟨hk1,hk2,hn,hrd⟩
  simp only at hk1 hk2 hn hrd ⊢
  cases hb:s[k]? with
  | none =>
   have hk:k=s.length:=by
    have:=List.getElem?_eq_none_iff.1 hb
    omega
   subst hk
   rw [List.drop_length,rdP] at hrd
   subst hrd
   have en:IntKind.i64.wrap (0-(n:Int)) = -(n:Int):=by rw [IntWalk.i64_in _ (by omega)];omega
   repeat' ((conv=>whnf);first|(with_reducible first|refine br_t ?_|refine br_f ?_|refine za ?_|refine zg ?_)|refine za ?_ fmt_fn|refine zsl ?_|refine zsg ?_|refine zss ?_|refine zs1 ?_|refine zse ?_|refine zsn ?_|refine zsc ?_|(with_reducible first|refine zpa ?_|refine zqa ?_)|refine zp ?_|refine zq ?_|(with_reducible first|refine bc (fun h => ?_) (fun h => ?_)|refine zt ?_|refine zf ?_|refine br_i (fun h => ?_) (fun h => ?_))|refine zg ?_|refine zi ?_|refine zb ?_)
   all_goals conv=>whnf
   ·rw [en,finW_1 (by omega)]
   ·rw [finW_0 (by omega)]
  | some b =>
   have hk:k<s.length:=(List.getElem?_eq_some_iff.1 hb).1
   have hg:s[(k:Int).toNat]? = some b:=by rw [Int.toNat_natCast];exact hb
   have hdr:s.drop k=b::s.drop (k+1):=by rw [List.drop_eq_getElem_cons hk,(List.getElem?_eq_some_iff.1 hb).2]
   rw [hdr,rdP] at hrd
   cases hd:digitVal b with
   | none =>
    rw [hd] at hrd
    dsimp only at hrd
    subst hrd
    have hc:=byte_no hd
    repeat' ((conv=>whnf);first|(with_reducible first|refine br_t ?_|refine br_f ?_|refine za ?_|refine zg ?_)|refine za ?_ fmt_fn|refine zsl ?_|refine zsg ?_|refine zss ?_|refine zs1 ?_|refine zse ?_|refine zsn ?_|refine zsc ?_|(with_reducible first|refine zpa ?_|refine zqa ?_)|refine zp ?_|refine zq ?_|(with_reducible first|refine bc (fun h => ?_) (fun h => ?_)|refine zt ?_|refine zf ?_|refine br_i (fun h => ?_) (fun h => ?_))|refine zg ?_|refine zi ?_|refine zb ?_)
    all_goals conv=>whnf
    all_goals rfl
   | some d =>
    rw [hd] at hrd
    dsimp only at hrd
    obtain ⟨hd9,hc⟩:=byte_some hd
    have hq:=quo_of hd9
    rw [← hc] at hq
    have h4:10*n+d≤9223372036854775807→IntKind.i64.wrap (IntKind.i64.wrap (10*(n:Int))+IntKind.i64.wrap (IntKind.u8.wrap ((b.toNat:Int)-48)))=((10*n+d:Nat):Int):=fun h=>by
     rw [hc,IntWalk.i64_in (10*(n:Int)) (by omega),IntWalk.i64_in (d:Int) (by omega),IntWalk.i64_in _ (by omega)];omega
    by_cases hle:10*n+d≤9223372036854775807
    ·rw [if_pos hle] at hrd
     have h4:=h4 hle
     repeat' ((conv=>whnf);first|(with_reducible first|refine br_t ?_|refine br_f ?_|refine za ?_|refine zg ?_)|refine za ?_ fmt_fn|refine zsl ?_|refine zsg ?_|refine zss ?_|refine zs1 ?_|refine zse ?_|refine zsn ?_|refine zsc ?_|(with_reducible first|refine zpa ?_|refine zqa ?_)|refine zp ?_|refine zq ?_|(with_reducible first|refine bc (fun h => ?_) (fun h => ?_)|refine zt ?_|refine zf ?_|refine br_i (fun h => ?_) (fun h => ?_))|refine zg ?_|refine zi ?_|refine zb ?_)
     all_goals conv=>whnf
     refine ⟨(10*n+d,k+1),⟨by simp only;omega,by simp only;omega,hle,hrd⟩,?_,by simp only;omega⟩
     (conv=>whnf);exact zent
    ·rw [if_neg hle] at hrd
     subst hrd
     repeat' ((conv=>whnf);first|(with_reducible first|refine br_t ?_|refine br_f ?_|refine za ?_|refine zg ?_)|refine za ?_ fmt_fn|refine zsl ?_|refine zsg ?_|refine zss ?_|refine zs1 ?_|refine zse ?_|refine zsn ?_|refine zsc ?_|(with_reducible first|refine zpa ?_|refine zqa ?_)|refine zp ?_|refine zq ?_|(with_reducible first|refine bc (fun h => ?_) (fun h => ?_)|refine zt ?_|refine zf ?_|refine br_i (fun h => ?_) (fun h => ?_))|refine zg ?_|refine zi ?_|refine zb ?_)
     all_goals conv=>whnf
     all_goals rfl
end Go.Proofs.YtfkfficabeclcaaGreatDoor

namespace Go.Proofs.YtfkfficabeclcaaGreatDoor
open Go.RowKit Go.Sort Sx Go.Lib
def spl (c:UInt8):Str→List Str
 | []=>[[]]
 | b::l=>if b=c then []::spl c l else match spl c l with|h::t=>(b::h)::t|[]=>[[b]]
def cut1 (c:UInt8):Str→Str × Str × Bool
 | []=>([],[],false)
 | b::l=>if b=c then ([],l,true) else (b::(cut1 c l).1,(cut1 c l).2.1,(cut1 c l).2.2)
theorem spl_at {c:UInt8}:∀ {a:Str} (r:Str),c ∉ a→spl c (a++c::r)=a::spl c r
 | [],r,_=>by rw [List.nil_append,spl,if_pos rfl]
 | b::a,r,h=>by
  rw [List.cons_append,spl,if_neg (fun e=>h (by rw [e];exact List.mem_cons_self ..)),spl_at r (fun k=>h (List.mem_cons_of_mem _ k))]
theorem spl_no {c:UInt8}:∀ {a:Str},c ∉ a→spl c a=[a]
 | [],_=>rfl
 | b::a,h=>by
  rw [spl,if_neg (fun e=>h (by rw [e];exact List.mem_cons_self ..)),spl_no (fun k=>h (List.mem_cons_of_mem _ k))]
theorem cut1_at {c:UInt8}:∀ {a:Str} (r:Str),c ∉ a→cut1 c (a++c::r)=(a,r,true)
 | [],r,_=>by rw [List.nil_append,cut1,if_pos rfl]
 | b::a,r,h=>by
  rw [List.cons_append,cut1,if_neg (fun e=>h (by rw [e];exact List.mem_cons_self ..)),cut1_at r (fun k=>h (List.mem_cons_of_mem _ k))]
theorem cut1_no {c:UInt8}:∀ {a:Str},c ∉ a→cut1 c a=(a,[],false)
 | [],_=>rfl
 | b::a,h=>by
  rw [cut1,if_neg (fun e=>h (by rw [e];exact List.mem_cons_self ..)),cut1_no (fun k=>h (List.mem_cons_of_mem _ k))]
theorem spl_ne (c:UInt8):∀ s:Str,spl c s≠[]
 | []=>by simp [spl]
 | b::l=>by
  rw [spl]
  split
  ·simp
  ·split<;>simp
theorem itoa_mem {n:Int} {b:UInt8} (h:b∈itoa n):b=45∨(48≤b.toNat∧b.toNat≤57):=by
 unfold itoa at h
 split at h
 ·rcases List.mem_cons.1 h with h|h
  ·exact .inl h
  ·exact .inr (dec_mem _ b h)
 ·exact .inr (dec_mem _ b h)
theorem itoa_no {n:Int} {c:UInt8} (h1:c≠45) (h2:c.toNat<48∨57<c.toNat):c ∉ itoa n:=fun h=>by
 rcases itoa_mem h with h|h
 ·exact h1 h
 ·omega
def wrtV (n d:Int):Str:=if d=1 then itoa n else itoa n++47::itoa d
def numV (n d:Int):Str × Int:=if chk n d=0 then (wrtV n d,0) else ([],8)
def backV (s:Str) (n d:Int):(Int × Int) × Int:=if chk n d=0∧wrtV n d=s then ((n,d),0) else ((0,0),12)
def readV (s:Str):(Int × Int) × Int :=
 if (wholeV (cut1 47 s).1).2=true∧((cut1 47 s).2.2=true→(wholeV (cut1 47 s).2.1).2=true) then backV s (wholeV (cut1 47 s).1).1 (if (cut1 47 s).2.2 then (wholeV (cut1 47 s).2.1).1 else 1) else ((0,0),12)
structure IsRead (f:Str→(Int × Int) × Int):Prop where
 ok:∀ s,(f s).2=0→chk (f s).1.1 (f s).1.2=0∧wrtV (f s).1.1 (f s).1.2=s
 no:∀ s,(f s).2≠0→f s=((0,0),12)
 of:∀ n d,chk n d=0→fitI n→fitI d→f (wrtV n d)=((n,d),0)
 fit:∀ s,(f s).2=0→fitI (f s).1.1∧fitI (f s).1.2
theorem IsRead.eq {f g:Str→(Int × Int) × Int} (hf:IsRead f) (hg:IsRead g) (s:Str):f s=g s:=by
 have key:∀ {f g:Str→(Int × Int) × Int},IsRead f→IsRead g→(f s).2=0→f s=g s:=fun {f g} hf hg h=>by
  obtain ⟨a,b⟩:=hf.ok s h
  obtain ⟨c,d⟩:=hf.fit s h
  have:=hg.of _ _ a c d
  rw [b] at this
  rw [this,← h]
 by_cases h:(f s).2=0
 ·exact key hf hg h
 ·by_cases h2:(g s).2=0
  ·exact (key hg hf h2).symm
  ·rw [hf.no s h,hg.no s h2]
theorem IsRead.cases {f:Str→(Int × Int) × Int} (hf:IsRead f) (s:Str):(∃ n d,chk n d=0∧fitI n∧fitI d∧wrtV n d=s∧f s=((n,d),0))∨(f s=((0,0),12)∧∀ n d,chk n d=0→fitI n→fitI d→wrtV n d≠s):=by
 by_cases h:(f s).2=0
 ·obtain ⟨a,b⟩:=hf.ok s h
  obtain ⟨c,d⟩:=hf.fit s h
  refine .inl ⟨_,_,a,c,d,b,?_⟩
  rw [← h]
 ·refine .inr ⟨hf.no s h,fun n d h1 h2 h3 e => ?_⟩
  have:=hf.of n d h1 h2 h3
  rw [e] at this
  rw [this] at h;exact h rfl
theorem backV_ok {s:Str} {n d:Int} (h:(backV s n d).2=0):chk (backV s n d).1.1 (backV s n d).1.2=0∧wrtV (backV s n d).1.1 (backV s n d).1.2=s:=by
 unfold backV at h ⊢
 split at h
 ·rename_i c;rw [if_pos c];exact c
 ·cases h
theorem backV_fit {s:Str} {n d:Int} (hn:fitI n) (hd:fitI d):fitI (backV s n d).1.1∧fitI (backV s n d).1.2:=by
 unfold backV
 split
 ·exact ⟨hn,hd⟩
 ·exact ⟨⟨by decide,by decide⟩,⟨by decide,by decide⟩⟩
theorem backV_no {s:Str} {n d:Int} (h:(backV s n d).2≠0):backV s n d=((0,0),12):=by
 unfold backV at h ⊢
 split at h
 ·exact absurd rfl h
 ·rename_i c;rw [if_neg c]
theorem readV_is:IsRead readV:=by
 refine ⟨fun s h => ?_,fun s h => ?_,fun n d hc hn hd => ?_,fun s h => ?_⟩
 ·unfold readV at h ⊢
  split at h
  ·rename_i c;rw [if_pos c];exact backV_ok h
  ·cases h
 ·unfold readV at h ⊢
  split at h
  ·rename_i c;rw [if_pos c];exact backV_no h
  ·rename_i c;rw [if_neg c]
 ·have hb:∀ s,wrtV n d=s→backV s n d=((n,d),0):=fun s e=>by unfold backV;rw [if_pos ⟨hc,e⟩]
  have hno:(47:UInt8) ∉ itoa n:=itoa_no (by decide) (by decide)
  unfold readV
  by_cases h1:d=1
  ·have e:wrtV n d=itoa n:=by unfold wrtV;rw [if_pos h1]
   rw [e,cut1_no hno]
   dsimp only
   rw [whole_itoa hn,if_pos ⟨rfl,fun h=>by cases h⟩]
   dsimp only
   rw [← h1]
   exact hb _ e
  ·have e:wrtV n d=itoa n++47::itoa d:=by unfold wrtV;rw [if_neg h1]
   rw [e,cut1_at _ hno]
   dsimp only
   rw [whole_itoa hn,whole_itoa hd,if_pos ⟨rfl,fun _=>rfl⟩]
   dsimp only
   rw [if_pos rfl]
   exact hb _ e
 ·unfold readV at h ⊢
  split at h
  ·rename_i c
   rw [if_pos c]
   refine backV_fit (whole_ok c.1).1 ?_
   split
   ·rename_i c2;exact (whole_ok (c.2 c2)).1
   ·exact ⟨by decide,by decide⟩
  ·cases h
end Go.Proofs.YtfkfficabeclcaaGreatDoor

namespace Go.Proofs.YtfkfficabeclcaaGreatDoor
open Go.RowKit Go.Sort Sx Go.Lib
theorem idx_cons (c b:UInt8) (l:Str):Lib.index (b::l) [c]=if b=c then 0 else if Lib.index l [c] = -1 then -1 else Lib.index l [c]+1:=by
 rw [Lib.index]
 have e:([c]:Str).isPrefixOf (b::l)=(c == b):=by simp [List.isPrefixOf]
 rw [e]
 by_cases h:b=c
 ·subst h;simp
 ·rw [if_neg h,if_neg (by simpa using fun k=>h k.symm)]
  by_cases h2:Lib.index l [c] = -1
  ·rw [if_pos (by rw [h2];rfl),if_pos h2]
  ·rw [if_neg (by simpa using h2),if_neg h2]
theorem spl_idx (c:UInt8):∀ s:Str,(Lib.index s [c] = -1→spl c s=[s]∧cut1 c s=(s,[],false))∧∀ i:Nat,Lib.index s [c]=i→spl c s=s.take i::spl c (s.drop (i+1))∧cut1 c s=(s.take i,s.drop (i+1),true)∧i<s.length
 | []=>⟨fun _=>⟨rfl,rfl⟩,fun i h=>by
   have:Lib.index ([]:Str) [c] = -1:=rfl
   omega⟩
 | b::l=>by
  obtain ⟨h1,h2⟩:=spl_idx c l
  rw [idx_cons]
  by_cases h:b=c
  ·rw [if_pos h]
   refine ⟨fun k=>by omega,fun i k => ?_⟩
   have:i=0:=by omega
   subst this
   refine ⟨?_,?_,by simp⟩
   ·rw [spl,if_pos h];rfl
   ·rw [cut1,if_pos h];rfl
  ·rw [if_neg h]
   by_cases h3:Lib.index l [c] = -1
   ·rw [if_pos h3]
    obtain ⟨a,b'⟩:=h1 h3
    refine ⟨fun _=>⟨?_,?_⟩,fun i k=>by omega⟩
    ·rw [spl,if_neg h,a]
    ·rw [cut1,if_neg h,b']
   ·rw [if_neg h3]
    have hg:=Lib.index_ge l [c]
    refine ⟨fun k=>by omega,fun i k => ?_⟩
    obtain ⟨j,rfl⟩:∃ j,i=j+1:=⟨i-1,by omega⟩
    obtain ⟨a,b',c'⟩:=h2 j (by omega)
    refine ⟨?_,?_,by simp;omega⟩
    ·rw [spl,if_neg h,a];rfl
    ·rw [cut1,if_neg h,b'];rfl
theorem lcut_eq (c:UInt8) (s:Str):Lib.cut s [c]=cut1 c s:=by
 obtain ⟨h1,h2⟩:=spl_idx c s
 have hg:=Lib.index_ge s [c]
 unfold Lib.cut
 by_cases h:0≤Lib.index s [c]
 ·rw [if_pos h]
  obtain ⟨i,hi⟩:∃ i:Nat,Lib.index s [c]=i:=⟨(Lib.index s [c]).toNat,by omega⟩
  rw [(h2 i hi).2.1,hi,Int.toNat_natCast];rfl
 ·rw [if_neg h,(h1 (by omega)).2]
theorem lsplit_eq (c:UInt8):∀ (n:Nat) (s:Str),s.length≤n→Lib.splitK [c] 0 (Lib.count s [c]) s=spl c s
 | n,s,hn=>by
  obtain ⟨h1,h2⟩:=spl_idx c s
  have hg:=Lib.index_ge s [c]
  by_cases h:Lib.index s [c] = -1
  ·rw [Lib.count_miss h,(h1 h).1];rfl
  ·obtain ⟨i,hi⟩:∃ i:Nat,Lib.index s [c]=i:=⟨(Lib.index s [c]).toNat,by omega⟩
   obtain ⟨a,b,hlt⟩:=h2 i hi
   cases n with
   | zero=>omega
   | succ n =>
    have hc:Lib.count s [c]=1+Lib.count (s.drop (i+1)) [c]:=Lib.count_hit (by simp) hi
    rw [hc,Nat.add_comm 1,Lib.splitK,if_neg (by simpa using h),hi,Int.toNat_natCast,a]
    have:=lsplit_eq c n (s.drop (i+1)) (by rw [List.length_drop];omega)
    rw [show i+[c].length=i+1 from rfl,this,Nat.add_zero]
theorem spl_len (c:UInt8):∀ s:Str,(spl c s).length≤s.length+1
 | []=>by simp [spl]
 | b::l=>by
  have:=spl_len c l
  have hne:=spl_ne c l
  rw [spl]
  split
  ·simp only [List.length_cons];omega
  ·split
   ·rename_i h t e;rw [e] at this;simp only [List.length_cons] at this ⊢;omega
   ·rename_i e;exact absurd e hne
theorem spl_each (c:UInt8):∀ (s:Str),∀ x∈spl c s,x.length≤s.length
 | [],x,h=>by simp [spl] at h;subst h;simp
 | b::l,x,h=>by
  have ih:=spl_each c l
  rw [spl] at h
  split at h
  ·rcases List.mem_cons.1 h with rfl|h
   ·simp
   ·have:=ih x h;simp only [List.length_cons];omega
  ·split at h
   ·rename_i a t e
    rw [e] at ih
    rcases List.mem_cons.1 h with rfl|h
    ·have:=ih a (List.mem_cons_self ..);simp only [List.length_cons];omega
    ·have:=ih x (List.mem_cons_of_mem _ h);simp only [List.length_cons];omega
   ·rename_i e;exact absurd e (spl_ne c l)
theorem cut1_len (c:UInt8):∀ s:Str,(cut1 c s).1.length≤s.length∧(cut1 c s).2.1.length≤s.length
 | []=>by simp [cut1]
 | b::l=>by
  have ih:=cut1_len c l
  rw [cut1]
  split
  ·simp
  ·simp only [List.length_cons];omega
end Go.Proofs.YtfkfficabeclcaaGreatDoor

namespace Go.Proofs.YtfkfficabeclcaaGreatDoor
open Go Go.RowKit Go.Sort Sx
open Go.Lib hiding intOf
abbrev strs (l:List Str):D:=.list 1 (l.map fun s=>[str s])
abbrev retS (x:Str × Int):DV:=.tup [.one (str x.1),.one (i64 x.2)]
theorem toL (a:Str):(⟨a.toArray⟩:ByteArray).data.toList=a:=rfl
theorem rep_str {w:World} {M:Nat→Prop} {s:Str} {v:Value} (h:Rep w M (str s) v):v=bstr s:=by cases h;rfl
theorem dr_below (w:World) (n:Nat):Below w.heap.size w (w.drewN n):=by
 have h:=Below.refl w.heap.size w
 exact ⟨h.os,h.tape,h.output,h.size,h.block⟩
theorem cut_fn {s:Str} {c:UInt8} (hs:s.length<4294967281):FnOK Tryz.prog 139 [.one (str s),.one (str [c])] (.tup [.one (str (cut1 c s).1),.one (str (cut1 c s).2.1),.one (bol (cut1 c s).2.2)]) :=
 fn_of_callsG (fun _ _=>Tryz.call139 _ _) rfl rfl (fun _=>⟨.v trivial,.v trivial,.v trivial,trivial⟩) (fun h w hg=>by
  obtain ⟨m,hm⟩:=hg.ml
  have H:=Tryz.strings_Cut ⟨s.toArray⟩ ⟨[c].toArray⟩ m w hs hm
  simp only [lcut_eq] at H
  exact H.mono fun e w' ⟨he,n,hw⟩=>⟨he,hw ▸ dr_below w n⟩)
theorem rep_new {w:World} {M:Nat→Prop} (hM:∀ b,M b→b<w.heap.size) {l:List Str} {bs:List ByteArray} {T:TypeId} (hb:bs.map (·.data.toList)=l) (hm:l.length≤9223372036854775807):Rep (w.alloc (.cells (bs.map Value.string).toArray T)) M (strs l) (.slice (some ⟨w.heap.size,0,none⟩) l.length l.length):=by
 have hl:bs.length=l.length:=by rw [← hb,List.length_map]
 have e:l.length=(l.map fun s=>[str s]).length:=by rw [List.length_map]
 have e1:∀ i (hi:i<l.length),(bs[i]'(by omega)).data.toList=l[i]:=fun i hi=>by subst hb;rw [List.getElem_map]
 have key:Rep (w.alloc (.cells (bs.map Value.string).toArray T)) M (.list 1 (l.map fun s=>[str s])) (.slice (some ⟨w.heap.size,0,none⟩) (l.map fun s=>[str s]).length l.length):=by
  refine .list (fun i _=>bstr (l.getD i [])) (by rw [← e];exact Nat.le_refl _) hm (fun h=>absurd (hM _ h) (by omega)) (by simp) (fun x hx => ?_) (fun i j hi hj => ?_) (fun i j hi hj => ?_)
  ·obtain ⟨s,_,rfl⟩:=List.mem_map.1 hx;rfl
  ·have hi':i<l.length:=by rw [e];exact hi
   have:j=0:=by omega
   subst this
   have:=e1 i hi'
   have hx:(⟨(l.getD i []).toArray⟩:ByteArray)=bs[i]'(by omega):=by
    rw [List.getD_eq_getElem?_getD,List.getElem?_eq_getElem hi',Option.getD_some,← this]
   simp only [Nat.zero_add,Nat.mul_one,Nat.add_zero]
   rw [World.cell?_alloc_new]
   simp [List.getElem?_eq_getElem (show i<bs.length by omega)]
   rw [← hx,List.getD_eq_getElem?_getD]
  ·have hi':i<l.length:=by rw [e];exact hi
   have ee:(l.map fun s=>[str s])[i]=[str l[i]]:=by rw [List.getElem_map]
   have hj0:j=0:=by rw [ee] at hj;simp at hj;omega
   subst hj0
   have:(l.map fun s=>[str s])[i][0]=str l[i]:=by simp only [ee];rfl
   rw [this]
   have hx:l.getD i []=l[i]:=by rw [List.getD_eq_getElem?_getD,List.getElem?_eq_getElem hi',Option.getD_some]
   rw [hx]
   exact .v _ rfl trivial
 rw [← e] at key
 exact key
theorem split_fn {s:Str} {c:UInt8} (hs:s.length<4294967281):FnOK Tryz.prog 44 [.one (str s),.one (str [c])] (.c (.one (strs (spl c s)))):=by
 refine fun w M vs hM hvs=>.inl ⟨44,Tryz.call44 _ _,?_⟩
 obtain ⟨h1,h2⟩:=(dcs_rel (l:=[.one (str s),.one (str [c])]) rfl).1 hvs
 subst h1
 obtain ⟨m,hm⟩:=hM.gd.ml
 have hb:(splitB ⟨[c].toArray⟩ 0 (countB ⟨s.toArray⟩ ⟨[c].toArray⟩) ⟨s.toArray⟩).map (·.data.toList)=spl c s:=by
  rw [splitB_data]
  exact lsplit_eq c _ s (Nat.le_refl _)
 have hlen:=spl_len c s
 have hcnt:countB ⟨s.toArray⟩ ⟨[c].toArray⟩+1=(spl c s).length:=by
  have:∀ (n:Nat) (s:Str),s.length≤n→Lib.count s [c]+1=(spl c s).length:=by
   intro n
   induction n with
   | zero =>
    intro s hn
    have:s=[]:=List.eq_nil_of_length_eq_zero (by omega)
    subst this
    rw [Lib.count_miss (show Lib.index ([]:Str) [c] = -1 from rfl)];rfl
   | succ n ih =>
    intro s hn
    obtain ⟨h1,h2⟩:=spl_idx c s
    have hg:=Lib.index_ge s [c]
    by_cases h:Lib.index s [c] = -1
    ·rw [Lib.count_miss h,(h1 h).1];rfl
    ·obtain ⟨i,hi⟩:∃ i:Nat,Lib.index s [c]=i:=⟨(Lib.index s [c]).toNat,by omega⟩
     obtain ⟨a,b,hlt⟩:=h2 i hi
     have hc:Lib.count s [c]=1+Lib.count (s.drop (i+1)) [c]:=Lib.count_hit (by simp) hi
     have:=ih (s.drop (i+1)) (by rw [List.length_drop];omega)
     rw [hc,a,List.length_cons];omega
  exact this _ s (Nat.le_refl _)
 refine (Tryz.strings_Split ⟨s.toArray⟩ ⟨[c].toArray⟩ m w hs hm (Nat.le_refl 1)).mono fun e w' ⟨he,hw⟩=>⟨_,he,?_,?_⟩
 ·subst hw
  rw [hcnt]
  exact rep_new hM.lt hb (by omega)
 ·subst hw
  exact (Below.refl _ _).alloc (Nat.le_refl _) _
theorem rep_strs {w:World} {M:Nat→Prop} {es:List Str} {v:Value} (h0:es≠[]) (h:Rep w M (strs es) v):∃ b off cap,v=.slice (some ⟨b,off,none⟩) es.length cap∧es.length≤cap∧b<w.heap.size∧(∀ i (hi:i<es.length),w.cell? ⟨b,off+i,none⟩=some (bstr es[i])):=by
 obtain ⟨l,hl⟩:∃ l:List (List Sx.D),l=es.map fun i=>[str i]:=⟨_,rfl⟩
 have hll:l.length=es.length:=by rw [hl,List.length_map]
 have h':Rep w M (.list 1 l) v:=by rw [hl];exact h
 clear h
 cases h' with
 | nil k x c hm hx =>
  exact absurd (List.eq_nil_of_length_eq_zero (by rw [← hll];rfl)) h0
 | @list b off cap k l vs hc hm hMb hb hk hv hr =>
  refine ⟨b,off,cap,by rw [hll],by omega,hb,fun i hi => ?_⟩
  have hi':i<l.length:=by omega
  have h1:=hv i 0 hi' (by decide)
  have e1:l[i]=[str es[i]]:=by subst hl;rw [List.getElem_map]
  have h2:=hr i 0 hi' (by rw [e1];exact Nat.zero_lt_one)
  have e2:l[i][0]'(by rw [e1];exact Nat.zero_lt_one)=str es[i]:=by simp only [e1];rfl
  rw [e2] at h2
  rw [rep_str h2] at h1
  simpa using h1
def joinC (c:UInt8):List Str→Str
 | []=>[]
 | [a]=>a
 | a::l=>a++c::joinC c l
theorem ljoin_eq (c:UInt8):∀ l:List Str,Lib.join l [c]=joinC c l
 | []=>rfl
 | [a]=>Lib.join_one _ _
 | a::b::l=>by
  have ih:=ljoin_eq c (b::l)
  rw [Lib.join_cons] at ih ⊢
  show _=a++c::joinC c (b::l)
  rw [← ih]
  simp [Lib.joinTail]
theorem join_fn {l:List Str} {c:UInt8} (hl:l.length≤1000000) (hj:(joinC c l).length≤1000000):FnOK Tryz.prog 51 [.one (strs l),.one (str [c])] (.c (.one (str (joinC c l)))):=by
 refine fun w M vs hM hvs=>.inl ⟨51,Tryz.call51 _ _,?_⟩
 match vs,hvs with
 | [u,v],hvs =>
  obtain ⟨h1,h2,_⟩:=hvs
  have h2:=rep_str h2
  subst h2
  by_cases h0:l=[]
  ·subst h0
   obtain ⟨a,c',rfl⟩:∃ a c',u=.slice a 0 c':=by
    have h1:Rep w M (.list 1 []) u:=h1
    cases h1 with
    | nil k x c hm hx=>exact ⟨_,_,rfl⟩
    | list vs=>exact ⟨_,_,rfl⟩
   exact (Tryz.strings_Join_none a c' ⟨[c].toArray⟩ w).mono fun e w' ⟨he,hw⟩=>⟨_,he,.v _ rfl trivial,hw ▸ Below.refl _ _⟩
  ·obtain ⟨b,off,cap,rfl,hc,hb,hv⟩:=rep_strs h0 h1
   have hmap:(l.map fun s=>(⟨s.toArray⟩:ByteArray)).map (·.data.toList)=l:=by rw [List.map_map];exact List.map_id l
   have H:=Tryz.strings_Join b off cap (l.map fun s=>⟨s.toArray⟩) ⟨[c].toArray⟩ w (fun j x hx=>by
    rw [List.getElem?_map] at hx
    cases e:l[j]? with
    | none=>rw [e] at hx;cases hx
    | some y =>
     rw [e] at hx
     injection hx with hx
     subst hx
     obtain ⟨hj,rfl⟩:=List.getElem?_eq_some_iff.1 e
     exact hv j hj) hb (by rw [List.length_map];omega) (by rw [List.length_map];exact hc) (by rw [hmap,toL,ljoin_eq];omega)
   rw [List.length_map,hmap,toL,ljoin_eq] at H
   exact H.mono fun e w' ⟨he,hw⟩=>⟨_,he,.v _ rfl trivial,hw⟩
 | [],hvs=>exact hvs.elim
 | [_],hvs=>exact hvs.2.elim
 | _::_::_::_,hvs=>exact hvs.2.2.elim
end Go.Proofs.YtfkfficabeclcaaGreatDoor
