import Derived.Test.YtfkfficabeclcaaGreatDoorGLTNamesAT
import Derived.Test.YtfkfficabeclcaaGreatDoorGLTNamesAP
import Derived.Test.YtfkfficabeclcaaGreatDoorGLTNamesAQ
import Derived.Lib.AtoiTie
import Derived.Lib.AtoiAllCases
import Derived.Test.YtfkfficabeclcaaGreatDoorGLTNamesAO
set_option linter.all false
namespace Go.Proofs.YtfkfficabeclcaaGreatDoor
open Go Go.RowKit Go.Sort Sx
set_option maxRecDepth 2000
def ldP (l:List Pt) (n m:Int):Pt:=(srt n m l)[0]?.getD default
def askV (m:Md) (a:Ak):Md × Rp :=
 if formV a then
  (if a.k=1 then (if (putV m.l a.p).2=0 then (⟨m.n,m.d,(putV m.l a.p).1⟩,rp0) else (m,rpE (putV m.l a.p).2))
  else if a.k=2 then (if (takeV m.l a.id).2=0 then (⟨m.n,m.d,(takeV m.l a.id).1⟩,rp0) else (m,rpE (takeV m.l a.id).2))
  else if a.k=3 then (if (changeV m.l a.p).2=0 then (⟨m.n,m.d,(changeV m.l a.p).1⟩,rp0) else (m,rpE (changeV m.l a.p).2))
  else if a.k=4 then (if askd a.n a.d=0 then (if a.n*m.d≤m.n*a.d then (m,rpE 44) else (⟨a.n,a.d,m.l⟩,⟨0,0,0,0,0,btw (allM m.l) m.n m.d a.n a.d⟩)) else (m,rpE (askd a.n a.d)))
  else if a.k=5 then (if m.l.length=0 then (m,rpE 42) else (m,⟨0,(ldP m.l m.n m.d).id,0,(plc (ldP m.l m.n m.d) m.n m.d).1,(plc (ldP m.l m.n m.d) m.n m.d).2,[]⟩))
  else (m,⟨(closV m.l m.n m.d).2.2.2.2,(closV m.l m.n m.d).1,(closV m.l m.n m.d).2.1,(closV m.l m.n m.d).2.2.1,(closV m.l m.n m.d).2.2.2.1,[]⟩))
 else (m,rpE 12)
abbrev retA (x:Md × Rp):DV:=.tup [x.1.dc,x.2.dc]
theorem ldP_mem {l:List Pt} {n m:Int} (h:l.length≠0):ldP l n m∈l:=by
 have h0:0<(srt n m l).length:=by rw [srt_len];omega
 unfold ldP
 rw [List.getElem?_eq_getElem h0]
 exact (srt_perm n m l).mem_iff.1 (List.getElem_mem h0)
theorem pos_mem {l:List Pt} {p:Pt} (hs:incr l=true) (hp:p∈l):has l p.id=true∧l[pos l p.id]?.getD default=p:=by
 have hh:has l p.id=true:=List.any_eq_true.2 ⟨p,hp,by simp⟩
 refine ⟨hh,?_⟩
 obtain ⟨hlt,he⟩:=(has_pos hs).1 hh
 rw [List.getElem?_eq_getElem hlt]
 obtain ⟨k,hk,rfl⟩:=List.getElem_of_mem hp
 have:pos l l[k].id=k:=by
  rcases Nat.lt_trichotomy (pos l l[k].id) k with h|h|h
  ·have:=incr_lt hs k _ hk h;omega
  ·exact h
  ·have:=incr_lt hs _ k hlt h;omega
 show l[pos l l[k].id]=l[k]
 exact getElem_congr rfl this _
theorem leadV_ok {l:List Pt} {n m:Int} (h1:fchk l=0) (h2:chk n m=0):leadV l n m=if l.length=0 then (0,42) else ((ldP l n m).id,0):=by
 unfold leadV tchk ldP
 rw [if_pos h1,if_pos h2]
theorem oask_fn {m:Md} (hm:mchk m=0) (a:Ak):FnOK Tryz.prog 52 [m.dc,a.dc] (retA (askV m a)):=by
 obtain ⟨g1,g2⟩:=mchk_ok hm
 obtain ⟨k1,k2,k3⟩:=fchk_ok g2
 obtain ⟨t1,_,_,_,_⟩:=askd_ok g1
 have H0:=oformed_fn a
 have HC:=clonePt_own (m.l.map Pt.c) (by simp;omega)
 have HC':=ok_of_own HC
 have hk:formV a=true→a.k=1∨a.k=2∨a.k=3∨a.k=4∨a.k=5∨a.k=6:=fun h=>by
  unfold formV at h
  have:=of_decide_eq_true h
  omega
 unfold askV
 cases hf:formV a
 ·rw [hf] at H0
  rw [if_neg (by decide)]
  clear HC
  refine fn_ok (by kernel_rfl) ty_ok Tryz.func52 rfl (fun _ _=>Tryz.call52 _ _) rfl ?_
  intro hw
  clear hw
  exact zw
 ·rw [hf] at H0
  rw [if_pos rfl]
  rcases hk hf with h|h|h|h|h|h
  ·rw [if_pos h]
   have H1:=fPut_fn m.l a.p
   have H2:=oask1_mem (putV m.l a.p).1 (putV m.l a.p).2 rp0 m.n m.d m.l
   simp only [retFl] at H1
   simp only [Rp.c,rp0,mts,List.map_nil] at H2
   by_cases h0:(putV m.l a.p).2=0
   ·rw [if_pos h0] at H2 ⊢
    rw [h0] at H1 H2
    generalize (putV m.l a.p).1=f at *
    clear HC
    refine fn_ok (by kernel_rfl) (ty_okK [] [] [] [98]) Tryz.func52 rfl (fun _ _=>Tryz.call52 _ _) rfl ?_
    intro hw
    clear hw
    exact zw
   ·rw [if_neg h0] at H2 ⊢
    generalize (putV m.l a.p).1=f at *
    generalize (putV m.l a.p).2=z at *
    clear HC
    refine fn_ok (by kernel_rfl) (ty_okK [] [] [] [98]) Tryz.func52 rfl (fun _ _=>Tryz.call52 _ _) rfl ?_
    intro hw
    clear hw
    exact zw
  ·rw [if_neg (by omega),if_pos h]
   have H1:=fTake_fn m.l a.id
   have H2:=oask1_mem (takeV m.l a.id).1 (takeV m.l a.id).2 rp0 m.n m.d m.l
   simp only [retFl] at H1
   simp only [Rp.c,rp0,mts,List.map_nil] at H2
   by_cases h0:(takeV m.l a.id).2=0
   ·rw [if_pos h0] at H2 ⊢
    rw [h0] at H1 H2
    generalize (takeV m.l a.id).1=f at *
    clear HC
    refine fn_ok (by kernel_rfl) (ty_okK [] [] [] [98]) Tryz.func52 rfl (fun _ _=>Tryz.call52 _ _) rfl ?_
    intro hw
    clear hw
    exact zw
   ·rw [if_neg h0] at H2 ⊢
    generalize (takeV m.l a.id).1=f at *
    generalize (takeV m.l a.id).2=z at *
    clear HC
    refine fn_ok (by kernel_rfl) (ty_okK [] [] [] [98]) Tryz.func52 rfl (fun _ _=>Tryz.call52 _ _) rfl ?_
    intro hw
    clear hw
    exact zw
  ·rw [if_neg (by omega),if_neg (by omega),if_pos h]
   have H1:=fChange_fn m.l a.p
   have H2:=oask1_mem (changeV m.l a.p).1 (changeV m.l a.p).2 rp0 m.n m.d m.l
   simp only [retFl] at H1
   simp only [Rp.c,rp0,mts,List.map_nil] at H2
   by_cases h0:(changeV m.l a.p).2=0
   ·rw [if_pos h0] at H2 ⊢
    rw [h0] at H1 H2
    generalize (changeV m.l a.p).1=f at *
    clear HC
    refine fn_ok (by kernel_rfl) (ty_okK [] [] [] [98]) Tryz.func52 rfl (fun _ _=>Tryz.call52 _ _) rfl ?_
    intro hw
    clear hw
    exact zw
   ·rw [if_neg h0] at H2 ⊢
    generalize (changeV m.l a.p).1=f at *
    generalize (changeV m.l a.p).2=z at *
    clear HC
    refine fn_ok (by kernel_rfl) (ty_okK [] [] [] [98]) Tryz.func52 rfl (fun _ _=>Tryz.call52 _ _) rfl ?_
    intro hw
    clear hw
    exact zw
  ·rw [if_neg (by omega),if_neg (by omega),if_neg (by omega),if_pos h]
   have H1:=asked_fn a.n a.d
   by_cases h1:askd a.n a.d=0
   ·rw [if_pos h1]
    rw [h1] at H1
    have t2:=(askd_ok h1).1
    have H2:=cmp_fn a.n a.d m.n m.d
    unfold cmpV bth at H2
    rw [if_pos (by rw [t2,if_pos rfl,t1])] at H2
    by_cases h2:a.n*m.d≤m.n*a.d
    ·rw [if_pos h2]
     have h3:cmpN (a.n*m.d) (m.n*a.d)≤0:=by unfold cmpN;(repeat' split)<;>omega
     generalize cmpN (a.n*m.d) (m.n*a.d)=z at *
     simp only [ret2] at H2
     clear HC
     refine fn_ok (by kernel_rfl) ty_ok Tryz.func52 rfl (fun _ _=>Tryz.call52 _ _) rfl ?_
     intro hw
     clear hw
     exact zw
    ·rw [if_neg h2]
     have h3:¬ cmpN (a.n*m.d) (m.n*a.d)≤0:=by unfold cmpN;(repeat' split)<;>omega
     have H3:=mAll_fn m.l m.n m.d a.n a.d
     have h4:mchk2 m.l m.n m.d a.n a.d=0:=by unfold mchk2;rw [if_pos g2,if_pos t1,if_pos t2,if_neg (by omega)]
     unfold mallV at H3
     rw [if_pos h4] at H3
     generalize btw (allM m.l) m.n m.d a.n a.d=L at *
     generalize cmpN (a.n*m.d) (m.n*a.d)=z at *
     simp only [ret2] at H2
     simp only [retMts] at H3
     clear HC
     refine fn_ok (by kernel_rfl) ty_ok Tryz.func52 rfl (fun _ _=>Tryz.call52 _ _) rfl ?_
     intro hw
     clear hw
     exact zw
   ·rw [if_neg h1]
    generalize askd a.n a.d=z at *
    clear HC
    refine fn_ok (by kernel_rfl) ty_ok Tryz.func52 rfl (fun _ _=>Tryz.call52 _ _) rfl ?_
    intro hw
    clear hw
    exact zw
  ·rw [if_neg (by omega),if_neg (by omega),if_neg (by omega),if_neg (by omega),if_pos h]
   have H1:=fLeader_fn m.l m.n m.d
   rw [leadV_ok g2 t1] at H1
   by_cases h1:m.l.length=0
   ·rw [if_pos h1] at H1 ⊢
    clear HC
    refine fn_ok (by kernel_rfl) ty_ok Tryz.func52 rfl (fun _ _=>Tryz.call52 _ _) rfl ?_
    intro hw
    clear hw
    exact zw
   ·rw [if_neg h1] at H1 ⊢
    have hmem:=ldP_mem (n:=m.n) (m:=m.d) h1
    obtain ⟨p1,p2⟩:=pos_mem k3 hmem
    have H2:=fFind_fn m.l (ldP m.l m.n m.d).id
    unfold findV at H2
    rw [if_pos g2,if_pos p1,p2] at H2
    have H3:=kAt_fn (ldP m.l m.n m.d).id (ldP m.l m.n m.d).a (ldP m.l m.n m.d).b m.n m.d
    rw [(plc_ok (k2 _ hmem) g1).1] at H3
    simp only [ret3] at H3
    simp only [ret2] at H1
    generalize ldP m.l m.n m.d=p at *
    clear HC
    refine fn_ok (by kernel_rfl) ty_ok Tryz.func52 rfl (fun _ _=>Tryz.call52 _ _) rfl ?_
    intro hw
    clear hw
    exact zw
  ·rw [if_neg (by omega),if_neg (by omega),if_neg (by omega),if_neg (by omega),if_neg (by omega)]
   have H1:=oClosest_fn m.l m.n m.d
   generalize closV m.l m.n m.d=x at *
   clear HC
   refine fn_ok (by kernel_rfl) ty_ok Tryz.func52 rfl (fun _ _=>Tryz.call52 _ _) rfl ?_
   intro hw
   clear hw
   exact zw
end Go.Proofs.YtfkfficabeclcaaGreatDoor

namespace Go.Proofs.YtfkfficabeclcaaGreatDoor
open Go Go.RowKit Go.Sort Sx
structure InsO (L0:List Mt) (i:Nat) (L:List Mt):Prop where
 p:L.Perm L0
 o:∀ a b (h:a<b) (hb:b<L.length),b<i→¬ mlt L[b] L[a]
structure InsI (L0:List Mt) (i k:Nat) (L:List Mt):Prop where
 p:L.Perm L0
 hk:k≤i
 hi:i<L.length
 o:∀ a b (h:a<b) (hb:b<L.length),b≤i→b≠k→¬ mlt L[b] L[a]
def swp (L:List Mt) (k:Nat) (h:k<L.length):List Mt:=(L.set k L[k-1]).set (k-1) L[k]
theorem swp_len {L:List Mt} {k:Nat} (h:k<L.length):(swp L k h).length=L.length:=by simp [swp]
theorem swp_get {L:List Mt} {k:Nat} (h:k<L.length) (h0:0<k) {b:Nat} (hb:b<(swp L k h).length) :
  (swp L k h)[b]=if b=k-1 then L[k] else if b=k then L[k-1] else L[b]'(by rw [swp_len] at hb;exact hb):=by
 simp only [swp,List.getElem_set,eq_comm (b:=b)]
theorem swap_at {x y:Mt} {l r:List Mt}:(l++y::x::r).Perm (l++x::y::r):=List.Perm.append_left l (List.Perm.swap ..)
theorem swp_perm {L:List Mt} {k:Nat} (h:k<L.length) (h0:0<k):(swp L k h).Perm L:=by
 obtain ⟨j,rfl⟩:∃ j,k=j+1:=⟨k-1,by omega⟩
 have e1:L=L.take j++L[j]::L[j+1]::L.drop (j+2):=by
  rw [← List.drop_eq_getElem_cons h,← List.drop_eq_getElem_cons (by omega),List.take_append_drop]
 have e2:swp L (j+1) h=L.take j++L[j+1]::L[j]::L.drop (j+2):=by
  refine List.ext_getElem (by rw [swp_len];simp;omega) fun b h1 h2 => ?_
  rw [swp_get h h0]
  rw [swp_len] at h1
  simp only [Nat.add_sub_cancel]
  rcases Nat.lt_trichotomy b j with c|c|c
  ·rw [if_neg (by omega),if_neg (by omega),List.getElem_append_left (by simp;omega),List.getElem_take]
  ·subst c
   have hm:min b L.length=b:=Nat.min_eq_left (by omega)
   rw [if_pos rfl,List.getElem_append_right (by rw [List.length_take];omega)]
   simp only [List.length_take,hm,Nat.sub_self,List.getElem_cons_zero]
  ·rw [if_neg (by omega),List.getElem_append_right (by simp;omega)]
   by_cases c1:b=j+1
   ·subst c1
    have key:∀ q,q=1→∀ (hq:q<(L[j+1]::L[j]::List.drop (j+2) L).length),(L[j+1]::L[j]::List.drop (j+2) L)[q]=L[j]:=by rintro _ rfl _;rfl
    rw [if_pos rfl]
    exact (key _ (by rw [List.length_take];omega) _).symm
   ·obtain ⟨d,rfl⟩:∃ d,b=j+(d+2):=⟨b-j-2,by omega⟩
    rw [if_neg c1]
    simp only [List.length_take,Nat.min_eq_left (show j≤L.length by omega),Nat.add_sub_cancel_left,List.getElem_cons_succ,List.getElem_drop]
    exact getElem_congr rfl (by omega) _
 rw [e2]
 conv=>rhs;rw [e1]
 exact swap_at
theorem InsI.start {L0 L:List Mt} {i:Nat} (H:InsO L0 i L) (h:i<L.length):InsI L0 i i L:=⟨H.p,Nat.le_refl _,h,fun a b h hb h1 h2=>H.o a b h hb (by omega)⟩
theorem InsI.next {L0 L:List Mt} {i k:Nat} (H:InsI L0 i k L) (h0:0<k) (hl:mlt (L[k]'(Nat.lt_of_le_of_lt H.hk H.hi)) (L[k-1]'(by have:=H.hk;have:=H.hi;omega))):InsI L0 i (k-1) (swp L k (Nat.lt_of_le_of_lt H.hk H.hi)):=by
 have hk:=H.hk
 have hi:=H.hi
 refine ⟨(List.Perm.trans ?_ H.p),by omega,by rw [swp_len];exact hi,fun a b h hb h1 h2 => ?_⟩
 ·exact swp_perm _ h0
 ·have hb':=hb
  rw [swp_len] at hb'
  rw [swp_get _ h0,swp_get _ h0]
  rw [if_neg h2]
  by_cases c1:b=k
  ·rw [if_pos c1]
   by_cases c2:a=k-1
   ·rw [if_pos c2];exact fun h=>mlt_asymm h hl
   ·rw [if_neg c2,if_neg (by omega)]
    exact H.o a (k-1) (by omega) (by omega) (by omega) (by omega)
  ·rw [if_neg c1]
   by_cases c2:a=k-1
   ·rw [if_pos c2]
    exact H.o k b (by omega) hb' h1 c1
   ·rw [if_neg c2]
    by_cases c3:a=k
    ·rw [if_pos c3]
     exact H.o (k-1) b (by omega) hb' h1 c1
    ·rw [if_neg c3]
     exact H.o a b h hb' h1 c1
theorem InsO.done {L0 L:List Mt} {i:Nat} (H:InsO L0 i L) (hok:∀ m∈L0,chk m.n m.d=0) (hi:L.length≤i):L=msrt L0:=by
 refine List.Perm.eq_of_pairwise (le:=fun a b=>¬ mlt b a) (fun a b ha hb h1 h2 => ?_) ?_ (msrt_sorted L0) (H.p.trans (msrt_perm L0).symm)
 ·exact mlt_eq (hok a (H.p.mem_iff.1 ha)) (hok b (msrt_mem.1 hb)) h2 h1
 ·exact List.pairwise_iff_getElem.2 fun a b ha hb h=>H.o a b h hb (by omega)
end Go.Proofs.YtfkfficabeclcaaGreatDoor

namespace Go.Proofs.YtfkfficabeclcaaGreatDoor
open Go Go.RowKit Go.Sort Sx
theorem wd_mts {l:List Mt} (h:WD (mts l)):l.length≤9223372036854775807:=by
 obtain ⟨h1,_,h3⟩:=WD_list.1 h
 simpa using h1
theorem Mt.eq_iff {p q:Mt}:p=q↔p.n=q.n∧p.d=q.d∧p.i=q.i∧p.j=q.j:=by
 cases p;cases q;simp
theorem eqMt_fn (a b:List Mt):FnOK Tryz.prog 82 [.one (mts a),.one (mts b)] (.c (.one (bol (decide (a=b))))):=by
 refine fn_ok (by kernel_rfl) ty_ok Tryz.func82 rfl (fun _ _=>Tryz.call82 _ _) rfl ?_
 intro hw
 simp only [WDCs,WDC,WDs] at hw
 have w1:=wd_mts hw.1
 have w2:=wd_mts hw.2.1
 clear hw
 by_cases h0:a.length=b.length
 ·repeat' ((conv=>whnf);first|(with_reducible first|refine br_t ?_|refine br_f ?_|refine za ?_|refine zg ?_)|rw [List.length_map]|refine zp ?_|refine zq ?_|(with_reducible first|refine bc (fun h => ?_) (fun h => ?_)|refine zt ?_|refine zf ?_|refine br_i (fun h => ?_) (fun h => ?_)|refine xi (pv_bool fun _=>nev31 _ _ _ _ _ _ _ _ _ _ _) ?_)|refine zg ?_|refine zi ?_|refine zb ?_)
  refine loop_J (by kernel_rfl) ty_ok (σ:=Nat) (fun i=>[(13,sV (.int .i64 i))]) (fun _=>[]) (fun i=>i≤a.length∧a.take i=b.take i) (fun i=>a.length-i) 0 ⟨by omega,rfl⟩ ?_ ?_
  ·(conv=>whnf);exact zent
  rintro i ⟨hi,hI⟩
  rcases Nat.lt_or_ge i a.length with hlt|hge
  ·have hb:i<b.length:=by omega
   have he1:=mts_get hlt
   have he2:=mts_get hb
   by_cases hc:a[i]=b[i]
   ·have hq:=Mt.eq_iff.1 hc
    repeat' ((conv=>whnf);first|(with_reducible first|refine br_t ?_|refine br_f ?_|refine za ?_|refine zg ?_)|rw [List.length_map]|refine zp ?_|refine zq ?_|(with_reducible first|refine bc (fun h => ?_) (fun h => ?_)|refine zt ?_|refine zf ?_|refine br_i (fun h => ?_) (fun h => ?_)|refine xi (pv_bool fun _=>nev31 _ _ _ _ _ _ _ _ _ _ _) ?_)|refine zg ?_|refine zi ?_|refine zb ?_)
    all_goals conv=>whnf
    refine ⟨i+1,⟨by omega,take_succ_eq hI hlt hb hc⟩,?_,by omega⟩
    (conv=>whnf);exact zent
   ·have hq:=mt Mt.eq_iff.2 hc
    rw [decide_eq_false (ne_of_get hlt hb hc)]
    repeat' ((conv=>whnf);first|(with_reducible first|refine br_t ?_|refine br_f ?_|refine za ?_|refine zg ?_)|rw [List.length_map]|refine zp ?_|refine zq ?_|(with_reducible first|refine bc (fun h => ?_) (fun h => ?_)|refine zt ?_|refine zf ?_|refine br_i (fun h => ?_) (fun h => ?_)|refine xi (pv_bool fun _=>nev31 _ _ _ _ _ _ _ _ _ _ _) ?_)|refine zg ?_|refine zi ?_|refine zb ?_)
    all_goals conv=>whnf
    all_goals rfl
  ·rw [decide_eq_true (take_all_eq hI h0 hge)]
   repeat' ((conv=>whnf);first|(with_reducible first|refine br_t ?_|refine br_f ?_|refine za ?_|refine zg ?_)|rw [List.length_map]|refine zp ?_|refine zq ?_|(with_reducible first|refine bc (fun h => ?_) (fun h => ?_)|refine zt ?_|refine zf ?_|refine br_i (fun h => ?_) (fun h => ?_)|refine xi (pv_bool fun _=>nev31 _ _ _ _ _ _ _ _ _ _ _) ?_)|refine zg ?_|refine zi ?_|refine zb ?_)
   all_goals conv=>whnf
   all_goals rfl
 ·rw [decide_eq_false (fun h=>h0 (congrArg List.length h))]
  repeat' ((conv=>whnf);first|(with_reducible first|refine br_t ?_|refine br_f ?_|refine za ?_|refine zg ?_)|rw [List.length_map]|refine zp ?_|refine zq ?_|(with_reducible first|refine bc (fun h => ?_) (fun h => ?_)|refine zt ?_|refine zf ?_|refine br_i (fun h => ?_) (fun h => ?_)|refine xi (pv_bool fun _=>nev31 _ _ _ _ _ _ _ _ _ _ _) ?_)|refine zg ?_|refine zi ?_|refine zb ?_)
  all_goals conv=>whnf
  all_goals rfl
theorem rmSame_fn (a b:List Mt):FnOK Tryz.prog 53 [.one (mts a),.one (mts b)] (.c (.one (bol (decide (a=b))))):=by
 refine fn_ok (by kernel_rfl) ty_ok Tryz.func53 rfl (fun _ _=>Tryz.call53 _ _) rfl ?_
 intro hw
 simp only [WDCs,WDC,WDs] at hw
 have w1:=wd_mts hw.1
 have w2:=wd_mts hw.2.1
 clear hw
 by_cases h0:a.length=b.length
 ·repeat' ((conv=>whnf);first|(with_reducible first|refine br_t ?_|refine br_f ?_|refine za ?_|refine zg ?_)|rw [List.length_map]|refine zp ?_|refine zq ?_|(with_reducible first|refine bc (fun h => ?_) (fun h => ?_)|refine zt ?_|refine zf ?_|refine br_i (fun h => ?_) (fun h => ?_)|refine xi (pv_bool fun _=>nev31 _ _ _ _ _ _ _ _ _ _ _) ?_)|refine zg ?_|refine zi ?_|refine zb ?_)
  refine loop_J (by kernel_rfl) ty_ok (σ:=Nat) (fun i=>[(5,sV (.int .i64 i))]) (fun _=>[]) (fun i=>i≤a.length∧a.take i=b.take i) (fun i=>a.length-i) 0 ⟨by omega,rfl⟩ ?_ ?_
  ·(conv=>whnf);exact zent
  rintro i ⟨hi,hI⟩
  rcases Nat.lt_or_ge i a.length with hlt|hge
  ·have hb:i<b.length:=by omega
   have he1:=mts_get hlt
   have he2:=mts_get hb
   by_cases hc:a[i]=b[i]
   ·have hq:=Mt.eq_iff.1 hc
    repeat' ((conv=>whnf);first|(with_reducible first|refine br_t ?_|refine br_f ?_|refine za ?_|refine zg ?_)|rw [List.length_map]|refine zp ?_|refine zq ?_|(with_reducible first|refine bc (fun h => ?_) (fun h => ?_)|refine zt ?_|refine zf ?_|refine br_i (fun h => ?_) (fun h => ?_)|refine xi (pv_bool fun _=>nev31 _ _ _ _ _ _ _ _ _ _ _) ?_)|refine zg ?_|refine zi ?_|refine zb ?_)
    all_goals conv=>whnf
    refine ⟨i+1,⟨by omega,take_succ_eq hI hlt hb hc⟩,?_,by omega⟩
    (conv=>whnf);exact zent
   ·have hq:=mt Mt.eq_iff.2 hc
    rw [decide_eq_false (ne_of_get hlt hb hc)]
    repeat' ((conv=>whnf);first|(with_reducible first|refine br_t ?_|refine br_f ?_|refine za ?_|refine zg ?_)|rw [List.length_map]|refine zp ?_|refine zq ?_|(with_reducible first|refine bc (fun h => ?_) (fun h => ?_)|refine zt ?_|refine zf ?_|refine br_i (fun h => ?_) (fun h => ?_)|refine xi (pv_bool fun _=>nev31 _ _ _ _ _ _ _ _ _ _ _) ?_)|refine zg ?_|refine zi ?_|refine zb ?_)
    all_goals conv=>whnf
    all_goals rfl
  ·rw [decide_eq_true (take_all_eq hI h0 hge)]
   repeat' ((conv=>whnf);first|(with_reducible first|refine br_t ?_|refine br_f ?_|refine za ?_|refine zg ?_)|rw [List.length_map]|refine zp ?_|refine zq ?_|(with_reducible first|refine bc (fun h => ?_) (fun h => ?_)|refine zt ?_|refine zf ?_|refine br_i (fun h => ?_) (fun h => ?_)|refine xi (pv_bool fun _=>nev31 _ _ _ _ _ _ _ _ _ _ _) ?_)|refine zg ?_|refine zi ?_|refine zb ?_)
   all_goals conv=>whnf
   all_goals rfl
 ·rw [decide_eq_false (fun h=>h0 (congrArg List.length h))]
  repeat' ((conv=>whnf);first|(with_reducible first|refine br_t ?_|refine br_f ?_|refine za ?_|refine zg ?_)|rw [List.length_map]|refine zp ?_|refine zq ?_|(with_reducible first|refine bc (fun h => ?_) (fun h => ?_)|refine zt ?_|refine zf ?_|refine br_i (fun h => ?_) (fun h => ?_)|refine xi (pv_bool fun _=>nev31 _ _ _ _ _ _ _ _ _ _ _) ?_)|refine zg ?_|refine zi ?_|refine zb ?_)
  all_goals conv=>whnf
  all_goals rfl
end Go.Proofs.YtfkfficabeclcaaGreatDoor

namespace Go.Proofs.YtfkfficabeclcaaGreatDoor
open Go Go.RowKit Go.Sort Sx
end Go.Proofs.YtfkfficabeclcaaGreatDoor

namespace Go.Proofs.YtfkfficabeclcaaGreatDoor
open Go Go.RowKit Go.Sort Sx
end Go.Proofs.YtfkfficabeclcaaGreatDoor

namespace Go.Proofs.YtfkfficabeclcaaGreatDoor
open Go Go.RowKit Go.Sort Sx
set_option maxRecDepth 2000
def md0:Md:=⟨0,0,[]⟩
theorem Rp.eq_iff {p q:Rp}:p=q↔p.e=q.e∧p.i=q.i∧p.j=q.j∧(p.n=q.n∧p.d=q.d)∧p.ms=q.ms:=by
 cases p;cases q;simp [and_assoc]
def doV (m:Md) (a:Ak):Md × Rp × Int:=if mchk m=0 then ((askV m a).1,(askV m a).2,0) else (md0,rp0,8)
abbrev retD (x:Md × Rp × Int):DV:=.tup [x.1.dc,x.2.1.dc,.one (i64 x.2.2)]
theorem oDo_fn (m:Md) (a:Ak):FnOK Tryz.prog 18 [m.dc,a.dc] (retD (doV m a)):=by
 have H:=oCheck_fn m
 unfold doV
 by_cases h:mchk m=0
 ·rw [if_pos h]
  have H1:=oask_fn h a
  rw [h] at H
  generalize askV m a=x at *
  simp only [retA] at H1
  refine fn_ok (by kernel_rfl) ty_ok Tryz.func18 rfl (fun _ _=>Tryz.call18 _ _) rfl ?_
  intro hw
  clear hw
  exact zw
 ·rw [if_neg h]
  have h8:=(mchk_08 m).resolve_left h
  rw [h8] at H
  refine fn_ok (by kernel_rfl) ty_ok Tryz.func18 rfl (fun _ _=>Tryz.call18 _ _) rfl ?_
  intro hw
  clear hw
  exact zw
theorem oSame_fn (a b:Rp):FnOK Tryz.prog 42 [a.dc,b.dc] (.c (.one (bol (decide (a=b))))):=by
 have H:=eqMt_fn a.ms b.ms
 have e:=Rp.eq_iff (p:=a) (q:=b)
 by_cases c:a.ms=b.ms
 ·rw [decide_eq_true c] at H
  simp only [c,and_true] at e
  refine fn_ok (by kernel_rfl) ty_ok Tryz.func42 rfl (fun _ _=>Tryz.call42 _ _) rfl ?_
  intro hw
  clear hw
  repeat' ((conv=>whnf);first|(with_reducible first|refine br_t ?_|refine br_f ?_|refine za ?_|refine zg ?_)|refine zp ?_|refine zq ?_|(with_reducible first|refine bc (fun h => ?_) (fun h => ?_)|refine zt ?_|refine zf ?_|refine br_i (fun h => ?_) (fun h => ?_)|refine xi (pv_bool fun _=>eqv25 _ _ _ _ _ _ _) ?_)|refine zg ?_|refine zi ?_|refine zb ?_)
  all_goals conv=>whnf
  all_goals
   refine r_bool ?_
   rw [Bool.eq_iff_iff]
   rw [decide_eq_true_eq,e]
   first|(refine iff_of_true rfl ?_;omega)|(refine iff_of_false (by decide) ?_;omega)
 ·rw [decide_eq_false c] at H
  simp only [c,and_false,iff_false] at e
  rw [decide_eq_false e]
  refine fn_ok (by kernel_rfl) ty_ok Tryz.func42 rfl (fun _ _=>Tryz.call42 _ _) rfl ?_
  intro hw
  clear hw
  repeat' ((conv=>whnf);first|(with_reducible first|refine br_t ?_|refine br_f ?_|refine za ?_|refine zg ?_)|refine zp ?_|refine zq ?_|(with_reducible first|refine bc (fun h => ?_) (fun h => ?_)|refine zt ?_|refine zf ?_|refine br_i (fun h => ?_) (fun h => ?_)|refine xi (pv_bool fun _=>eqv25 _ _ _ _ _ _ _) ?_)|refine zg ?_|refine zi ?_|refine zb ?_)
  all_goals conv=>whnf
  all_goals rfl
theorem roSame_fn (a b:Rp):FnOK Tryz.prog 19 [a.dc,b.dc] (.c (.one (bol (decide (a=b))))):=by
 have H:=rmSame_fn a.ms b.ms
 have e:=Rp.eq_iff (p:=a) (q:=b)
 by_cases c:a.ms=b.ms
 ·rw [decide_eq_true c] at H
  simp only [c,and_true] at e
  refine fn_ok (by kernel_rfl) ty_ok Tryz.func19 rfl (fun _ _=>Tryz.call19 _ _) rfl ?_
  intro hw
  clear hw
  repeat' ((conv=>whnf);first|(with_reducible first|refine br_t ?_|refine br_f ?_|refine za ?_|refine zg ?_)|refine zp ?_|refine zq ?_|(with_reducible first|refine bc (fun h => ?_) (fun h => ?_)|refine zt ?_|refine zf ?_|refine br_i (fun h => ?_) (fun h => ?_)|refine xi (pv_bool fun _=>eqv25 _ _ _ _ _ _ _) ?_)|refine zg ?_|refine zi ?_|refine zb ?_)
  all_goals conv=>whnf
  all_goals
   refine r_bool ?_
   rw [Bool.eq_iff_iff]
   rw [decide_eq_true_eq,e]
   first|(refine iff_of_true rfl ?_;omega)|(refine iff_of_false (by decide) ?_;omega)
 ·rw [decide_eq_false c] at H
  simp only [c,and_false,iff_false] at e
  rw [decide_eq_false e]
  refine fn_ok (by kernel_rfl) ty_ok Tryz.func19 rfl (fun _ _=>Tryz.call19 _ _) rfl ?_
  intro hw
  clear hw
  repeat' ((conv=>whnf);first|(with_reducible first|refine br_t ?_|refine br_f ?_|refine za ?_|refine zg ?_)|refine zp ?_|refine zq ?_|(with_reducible first|refine bc (fun h => ?_) (fun h => ?_)|refine zt ?_|refine zf ?_|refine br_i (fun h => ?_) (fun h => ?_)|refine xi (pv_bool fun _=>eqv25 _ _ _ _ _ _ _) ?_)|refine zg ?_|refine zi ?_|refine zb ?_)
  all_goals conv=>whnf
  all_goals rfl
end Go.Proofs.YtfkfficabeclcaaGreatDoor

namespace Go.Proofs.YtfkfficabeclcaaGreatDoor
open Go Go.RowKit Go.Sort Sx
set_option maxRecDepth 2000
end Go.Proofs.YtfkfficabeclcaaGreatDoor

namespace Go.Proofs.YtfkfficabeclcaaGreatDoor
open Go Go.RowKit Go.Sort Sx
set_option maxRecDepth 2000
def nmd (i:Int):Bool:=decide (0≤i) && decide (i≤65535)
def mOk (m:Mt):Bool:=decide (chk m.n m.d=0) && (decide (0≤m.i) && (decide (m.i<m.j) && decide (m.j≤65535)))
def mRun:Option Mt→List Mt→Bool
 | _,[]=>true
 | none,m::r=>mOk m && mRun (some m) r
 | some p,m::r=>mOk m && decide (cfM p m<0) && mRun (some m) r
def mtR (l:List Mt):Bool:=mRun none l && decide (l.length≤2016)
def rchk (r:Rp):Int :=
 if r.e≠0 then (if 1≤r.e∧r.e≤99∧r=rpE r.e then 0 else 8)
 else if r.ms≠[] then (if mtR r.ms=true∧r=⟨0,0,0,0,0,r.ms⟩ then 0 else 8)
 else if r.d≠0 then (if chk r.n r.d=0∧nmd r.i=true∧(r.j=0∨r.i<r.j∧nmd r.j=true∧0≤r.n) then 0 else 8)
 else (if r=rp0 then 0 else 8)
theorem rchk_08 (r:Rp):rchk r=0∨rchk r=8:=by
 unfold rchk
 repeat' split
 all_goals first|exact .inl rfl|exact .inr rfl
def prev (l:List Mt) (i:Nat):Option Mt:=if i=0 then none else l[i-1]?
theorem mRun_drop {l:List Mt} {i:Nat} (h:i<l.length):mRun (prev l i) (l.drop i)=(mOk l[i] && (decide (i=0) || (match l[i-1]? with|some p=>decide (cfM p l[i]<0)|none=>true)) && mRun (prev l (i+1)) (l.drop (i+1))):=by
 have e1:l.drop i=l[i]::l.drop (i+1):=List.drop_eq_getElem_cons h
 have e2:prev l (i+1)=some l[i]:=by unfold prev;rw [if_neg (by omega),Nat.add_sub_cancel,List.getElem?_eq_getElem h]
 rw [e1,e2]
 unfold prev
 by_cases h0:i=0
 ·subst h0
  simp [mRun]
 ·rw [if_neg h0,List.getElem?_eq_getElem (show i-1<l.length by omega),mRun]
  simp [h0]
theorem tnamed_fn (i:Int):FnOK Tryz.prog 41 [.one (i64 i)] (.c (.one (bol (nmd i)))):=by
 unfold nmd
 refine fn_ok (by kernel_rfl) ty_ok Tryz.func41 rfl (fun _ _=>Tryz.call41 _ _) rfl ?_
 intro hw
 clear hw
 repeat' ((conv=>whnf);first|(with_reducible first|refine br_t ?_|refine br_f ?_|refine za ?_|refine zg ?_)|refine zp ?_|refine zq ?_|(with_reducible first|refine bc (fun h => ?_) (fun h => ?_)|refine zt ?_|refine zf ?_|refine br_i (fun h => ?_) (fun h => ?_))|refine zg ?_|refine zi ?_|refine zb ?_)
 all_goals conv=>whnf
 all_goals first|rfl|exact r_bool (by simp;omega)
theorem tbefore_fn {a b:Mt} (h1:chk a.n a.d=0) (h2:chk b.n b.d=0):FnOK Tryz.prog 79 [a.dc,b.dc] (ret1 (cfM a b)):=by
 have H:=(cmp_fnd a.n a.d b.n b.d).ok
 unfold cmpV bth at H
 rw [if_pos (by rw [h1,if_pos rfl,h2])] at H
 simp only [ret2] at H
 have H2:=(cmpint_fnd a.i b.i).ok
 have H3:=(cmpint_fnd a.j b.j).ok
 unfold cfM
 have H4:=(cmporL_fnd [cmpN (a.n*b.d) (b.n*a.d),cmpN a.i b.i,cmpN a.j b.j] (by simp)).ok
 generalize orL [cmpN (a.n*b.d) (b.n*a.d),cmpN a.i b.i,cmpN a.j b.j]=z at *
 generalize cmpN (a.n*b.d) (b.n*a.d)=x at *
 generalize cmpN a.i b.i=y at *
 generalize cmpN a.j b.j=u at *
 change FnOK _ _ [.one (.list 1 [[i64 x],[i64 y],[i64 u]])] _ at H4
 refine fn_ok (by kernel_rfl) ty_ok Tryz.func79 rfl (fun _ _=>Tryz.call79 _ _) rfl ?_
 intro hw
 clear hw
 exact zw
end Go.Proofs.YtfkfficabeclcaaGreatDoor

namespace Go.Proofs.YtfkfficabeclcaaGreatDoor
open Go Go.RowKit Go.Sort Sx
set_option maxRecDepth 2000
theorem mOk_i {m:Mt}:mOk m=true↔chk m.n m.d=0∧0≤m.i∧m.i<m.j∧m.j≤65535:=by
 unfold mOk
 simp only [Bool.and_eq_true,decide_eq_true_eq]
theorem mRun_at {l:List Mt} {i:Nat} (h:i<l.length):(mRun (prev l i) (l.drop i)=false∧mOk l[i]=false) ∨
  (mOk l[i]=true∧mRun (prev l i) (l.drop i)=false∧∃ h0:0<i,¬ cfM (l[i-1]'(by omega)) l[i]<0)∨(mOk l[i]=true∧mRun (prev l i) (l.drop i)=mRun (prev l (i+1)) (l.drop (i+1))∧(∀ h0:0<i,cfM (l[i-1]'(by omega)) l[i]<0)):=by
 rw [mRun_drop h]
 by_cases h1:mOk l[i]=true
 ·rcases Nat.eq_zero_or_pos i with h0|h0
  ·refine .inr (.inr ⟨h1,?_,fun h=>by omega⟩)
   rw [h1]
   simp [h0]
  ·rw [List.getElem?_eq_getElem (show i-1<l.length by omega)]
   have e0:decide (i=0)=false:=decide_eq_false (by omega)
   by_cases h2:cfM (l[i-1]'(by omega)) l[i]<0
   ·refine .inr (.inr ⟨h1,?_,fun _=>h2⟩)
    rw [h1,e0]
    simp [h2]
   ·refine .inr (.inl ⟨h1,?_,h0,h2⟩)
    rw [h1,e0]
    simp [h2]
 ·refine .inl ⟨?_,by simpa using h1⟩
  rw [show mOk l[i]=false by simpa using h1]
  rfl
set_option maxRecDepth 100000 in
set_option maxHeartbeats 4000000 in
theorem tmeetings_fn (l:List Mt) (hl0:l.length≤1000000):FnOK Tryz.prog 39 [.one (mts l)] (.c (.one (bol (mtR l)))):=by
 have hll:(l.map Mt.c).length=l.length:=List.length_map ..
 unfold mtR
 rw [show mRun none l=mRun (prev l 0) (l.drop 0) from rfl]
 obtain ⟨V,hV⟩:∃ V,V=mRun (prev l 0) (l.drop 0):=⟨_,rfl⟩
 rw [← hV]
 refine fn_ok (by kernel_rfl) ty_ok Tryz.func39 rfl (fun _ _=>Tryz.call39 _ _) rfl ?_
 intro hw
 clear hw
 repeat' ((conv=>whnf);first|(with_reducible first|refine br_t ?_|refine br_f ?_|refine za ?_|refine zg ?_)|refine zp ?_|refine zq ?_|(with_reducible first|refine bc (fun h => ?_) (fun h => ?_)|refine zt ?_|refine zf ?_|refine br_i (fun h => ?_) (fun h => ?_))|refine zg ?_|refine zi ?_|refine zb ?_)
 refine loop_J (by kernel_rfl) ty_ok (σ:=Nat) (fun i=>[(7,sV (.int .i64 (i:Nat)))]) (fun _=>[]) (fun i=>i≤l.length∧V=mRun (prev l i) (l.drop i)∧(0<i→∀ h:i-1<l.length,mOk l[i-1]=true)) (fun i=>l.length-i) 0 ⟨Nat.zero_le _,hV,fun h=>absurd h (Nat.lt_irrefl _)⟩ ?_ ?_
 ·(conv=>whnf);exact zent
 rintro i ⟨hi,hI,hP⟩
 rcases Nat.lt_or_ge i l.length with hlt|hge
 ·have hel:=mts_get hlt
  have ew:IntKind.i64.wrap ((i:Int)+1)=((i+1:Nat):Int):=by rw [IntWalk.i64_in _ (by omega)];omega
  have Hc:=check_fn l[i].n l[i].d
  have Hn:=tnamed_fn l[i].j
  have nj:l[i].j≤65535→0≤l[i].j→nmd l[i].j=true:=fun h1 h2=>by unfold nmd;simp [h1,h2]
  have nk:¬ l[i].j≤65535→nmd l[i].j=false:=fun h1=>by unfold nmd;simp [h1]
  rcases mRun_at hlt with ⟨e1,e2⟩|⟨e1,e2,h0,e3⟩|⟨e1,e2,e3⟩
  ·rw [e1] at hI
   subst hI
   have hb:¬ (chk l[i].n l[i].d=0∧0≤l[i].i∧l[i].i<l[i].j∧l[i].j≤65535):=fun h=>by rw [mOk_i.2 h] at e2;cases e2
   clear e1 e2 hP hV
   generalize l[i]=m at *
   obtain ⟨m1,m2,m3,m4⟩:=m
   simp only at hel Hc Hn nj nk hb
   generalize chk m1 m2=z at *
   by_cases h1:z=0
   ·subst h1
    by_cases h2:0≤m3
    ·by_cases h3:m3<m4
     ·have h4:¬ m4≤65535:=fun h=>hb ⟨rfl,h2,h3,h⟩
      rw [nk h4] at Hn
      exact zw
     ·clear Hn
      exact zw
    ·clear Hn
     exact zw
   ·clear Hn
    exact zw
  ·rw [e2] at hI
   subst hI
   obtain ⟨c1,c2,c3,c4⟩:=mOk_i.1 e1
   have hpk:=hP h0 (by omega)
   obtain ⟨d1,d2,d3,d4⟩:=mOk_i.1 hpk
   have Hb:=tbefore_fn d1 c1
   have ew2:IntKind.i64.wrap ((i:Int)-1)=((i-1:Nat):Int):=by rw [IntWalk.i64_in _ (by omega)];omega
   have hel2:(l.map Mt.c)[(IntKind.i64.wrap ((i:Int)-1)).toNat]? = some [i64 (l[i-1]'(by omega)).n,i64 (l[i-1]'(by omega)).d,i64 (l[i-1]'(by omega)).i,i64 (l[i-1]'(by omega)).j]:=by rw [ew2];exact mts_get (by omega)
   rw [c1] at Hc
   rw [nj c4 (by omega)] at Hn
   clear e1 e2 hP hV nj nk d1 d2 d3 d4 hpk c1
   generalize cfM (l[i-1]'(by omega)) l[i]=z at *
   generalize l[i-1]'(by omega)=q at *
   generalize l[i]=m at *
   obtain ⟨m1,m2,m3,m4⟩:=m
   obtain ⟨q1,q2,q3,q4⟩:=q
   simp only [Mt.dc] at hel hel2 Hc Hn Hb c2 c3 c4
   exact zw
  ·obtain ⟨c1,c2,c3,c4⟩:=mOk_i.1 e1
   rw [c1] at Hc
   rw [nj c4 (by omega)] at Hn
   have hN:i+1≤l.length∧V=mRun (prev l (i+1)) (l.drop (i+1))∧(0<i+1→∀ h:i+1-1<l.length,mOk l[i+1-1]=true):=⟨hlt,by rw [hI,e2],fun _ h=>by simpa using e1⟩
   by_cases h0:0<i
   ·have hpk:=hP h0 (by omega)
    obtain ⟨d1,d2,d3,d4⟩:=mOk_i.1 hpk
    have Hb:=tbefore_fn d1 c1
    have ez:=e3 h0
    have ew2:IntKind.i64.wrap ((i:Int)-1)=((i-1:Nat):Int):=by rw [IntWalk.i64_in _ (by omega)];omega
    have hel2:(l.map Mt.c)[(IntKind.i64.wrap ((i:Int)-1)).toNat]? = some [i64 (l[i-1]'(by omega)).n,i64 (l[i-1]'(by omega)).d,i64 (l[i-1]'(by omega)).i,i64 (l[i-1]'(by omega)).j]:=by rw [ew2];exact mts_get (by omega)
    clear e1 e2 e3 hP hV hI nj nk d1 d2 d3 d4 hpk c1
    generalize cfM (l[i-1]'(by omega)) l[i]=z at *
    generalize l[i-1]'(by omega)=q at *
    obtain ⟨m,hm⟩:∃ m,m=l[i]:=⟨_,rfl⟩
    rw [← hm] at hel Hc Hn Hb c2 c3 c4
    clear hm
    obtain ⟨m1,m2,m3,m4⟩:=m
    obtain ⟨q1,q2,q3,q4⟩:=q
    simp only [Mt.dc] at hel hel2 Hc Hn Hb c2 c3 c4
    repeat' ((conv=>whnf);first|(with_reducible first|refine br_t ?_|refine br_f ?_|refine za ?_|refine zg ?_)|refine zp ?_|refine zq ?_|(with_reducible first|refine bc (fun h => ?_) (fun h => ?_)|refine zt ?_|refine zf ?_|refine br_i (fun h => ?_) (fun h => ?_))|refine zg ?_|refine zi ?_|refine zb ?_)
    all_goals conv=>whnf
    refine ⟨i+1,hN,?_,by omega⟩
    rw [← ew]
    (conv=>whnf);exact zent
   ·clear e1 e2 e3 hP hV hI nj nk c1
    obtain ⟨m,hm⟩:∃ m,m=l[i]:=⟨_,rfl⟩
    rw [← hm] at hel Hc Hn c2 c3 c4
    clear hm
    obtain ⟨m1,m2,m3,m4⟩:=m
    simp only at hel Hc Hn c2 c3 c4
    repeat' ((conv=>whnf);first|(with_reducible first|refine br_t ?_|refine br_f ?_|refine za ?_|refine zg ?_)|refine zp ?_|refine zq ?_|(with_reducible first|refine bc (fun h => ?_) (fun h => ?_)|refine zt ?_|refine zf ?_|refine br_i (fun h => ?_) (fun h => ?_))|refine zg ?_|refine zi ?_|refine zb ?_)
    all_goals conv=>whnf
    refine ⟨i+1,hN,?_,by omega⟩
    rw [← ew]
    (conv=>whnf);exact zent
 ·obtain rfl:i=l.length:=by omega
  rw [List.drop_length] at hI
  have hVt:V=true:=by rw [hI];cases prev l l.length<;>rfl
  subst hVt
  repeat' ((conv=>whnf);first|(with_reducible first|refine br_t ?_|refine br_f ?_|refine za ?_|refine zg ?_)|refine zp ?_|refine zq ?_|(with_reducible first|refine bc (fun h => ?_) (fun h => ?_)|refine zt ?_|refine zf ?_|refine br_i (fun h => ?_) (fun h => ?_))|refine zg ?_|refine zi ?_|refine zb ?_)
  all_goals conv=>whnf
  all_goals first|rfl|exact r_bool (by simp [hll];omega)
end Go.Proofs.YtfkfficabeclcaaGreatDoor

namespace Go.Proofs.YtfkfficabeclcaaGreatDoor
open Go Go.RowKit Go.Sort Sx
set_option maxRecDepth 2000
set_option maxRecDepth 100000 in
set_option maxHeartbeats 4000000 in
theorem tCheck_fn (r:Rp) (hl0:r.ms.length≤1000000):FnOK Tryz.prog 11 [r.dc] (ret1 (rchk r)):=by
 obtain ⟨e,i,j,n,d,l⟩:=r
 simp only at hl0
 have hll:(l.map Mt.c).length=l.length:=List.length_map ..
 unfold rchk
 simp only [Rp.dc]
 by_cases he:e=0
 ·rw [if_neg (by simp [he])]
  subst he
  by_cases hl:l=[]
  ·subst hl
   rw [if_neg (by simp)]
   by_cases hd:d=0
   ·rw [if_neg (by simp [hd])]
    subst hd
    have S:=oSame_fn ⟨0,i,j,n,0,[]⟩ rp0
    by_cases hz:(⟨0,i,j,n,0,[]⟩:Rp)=rp0
    ·rw [decide_eq_true hz] at S
     rw [if_pos hz]
     simp only [Rp.dc,rp0] at S
     replace S:FnOK Tryz.prog 42 [.agg [i64 0,i64 i,i64 j,i64 n,i64 0,.list 4 []],.agg [i64 0,i64 0,i64 0,i64 0,i64 0,.list 4 []]] (.c (.one (bol true))):=S
     show FnOK Tryz.prog 11 [.agg [i64 0,i64 i,i64 j,i64 n,i64 0,.list 4 []]] _
     refine fn_ok (by kernel_rfl) ty_ok Tryz.func11 rfl (fun _ _=>Tryz.call11 _ _) rfl ?_
     intro hw
     clear hw
     exact zw
    ·rw [decide_eq_false hz] at S
     rw [if_neg hz]
     simp only [Rp.dc,rp0] at S
     replace S:FnOK Tryz.prog 42 [.agg [i64 0,i64 i,i64 j,i64 n,i64 0,.list 4 []],.agg [i64 0,i64 0,i64 0,i64 0,i64 0,.list 4 []]] (.c (.one (bol false))):=S
     show FnOK Tryz.prog 11 [.agg [i64 0,i64 i,i64 j,i64 n,i64 0,.list 4 []]] _
     refine fn_ok (by kernel_rfl) ty_ok Tryz.func11 rfl (fun _ _=>Tryz.call11 _ _) rfl ?_
     intro hw
     clear hw
     exact zw
   ·rw [if_pos (by simpa using hd)]
    have S:=oSame_fn ⟨0,i,j,n,d,[]⟩ ⟨0,i,j,n,d,[]⟩
    rw [decide_eq_true rfl] at S
    simp only [Rp.dc] at S
    replace S:FnOK Tryz.prog 42 [.agg [i64 0,i64 i,i64 j,i64 n,i64 d,.list 4 []],.agg [i64 0,i64 i,i64 j,i64 n,i64 d,.list 4 []]] (.c (.one (bol true))):=S
    have Hc:=check_fn n d
    have Hi:=tnamed_fn i
    have Hj:=tnamed_fn j
    by_cases c1:chk n d=0
    ·rw [c1] at Hc
     by_cases c2:nmd i=true
     ·rw [c2] at Hi
      by_cases c3:j=0
      ·rw [if_pos ⟨c1,c2,.inl c3⟩]
       subst c3
       show FnOK Tryz.prog 11 [.agg [i64 0,i64 i,i64 0,i64 n,i64 d,.list 4 []]] _
       refine fn_ok (by kernel_rfl) ty_ok Tryz.func11 rfl (fun _ _=>Tryz.call11 _ _) rfl ?_
       intro hw
       clear hw
       exact zw
      ·by_cases c4:i<j
       ·by_cases c5:nmd j=true
        ·rw [c5] at Hj
         by_cases c6:0≤n
         ·rw [if_pos ⟨c1,c2,.inr ⟨c4,c5,c6⟩⟩]
          show FnOK Tryz.prog 11 [.agg [i64 0,i64 i,i64 j,i64 n,i64 d,.list 4 []]] _
          refine fn_ok (by kernel_rfl) ty_ok Tryz.func11 rfl (fun _ _=>Tryz.call11 _ _) rfl ?_
          intro hw
          clear hw
          exact zw
         ·rw [if_neg (fun h=>c6 (h.2.2.resolve_left c3).2.2)]
          show FnOK Tryz.prog 11 [.agg [i64 0,i64 i,i64 j,i64 n,i64 d,.list 4 []]] _
          refine fn_ok (by kernel_rfl) ty_ok Tryz.func11 rfl (fun _ _=>Tryz.call11 _ _) rfl ?_
          intro hw
          clear hw
          exact zw
        ·rw [if_neg (fun h=>c5 (h.2.2.resolve_left c3).2.1)]
         rw [show nmd j=false by simpa using c5] at Hj
         show FnOK Tryz.prog 11 [.agg [i64 0,i64 i,i64 j,i64 n,i64 d,.list 4 []]] _
         refine fn_ok (by kernel_rfl) ty_ok Tryz.func11 rfl (fun _ _=>Tryz.call11 _ _) rfl ?_
         intro hw
         clear hw
         exact zw
       ·rw [if_neg (fun h=>c4 (h.2.2.resolve_left c3).1)]
        show FnOK Tryz.prog 11 [.agg [i64 0,i64 i,i64 j,i64 n,i64 d,.list 4 []]] _
        refine fn_ok (by kernel_rfl) ty_ok Tryz.func11 rfl (fun _ _=>Tryz.call11 _ _) rfl ?_
        intro hw
        clear hw
        exact zw
     ·rw [if_neg (fun h=>c2 h.2.1)]
      rw [show nmd i=false by simpa using c2] at Hi
      show FnOK Tryz.prog 11 [.agg [i64 0,i64 i,i64 j,i64 n,i64 d,.list 4 []]] _
      refine fn_ok (by kernel_rfl) ty_ok Tryz.func11 rfl (fun _ _=>Tryz.call11 _ _) rfl ?_
      intro hw
      clear hw
      exact zw
    ·rw [if_neg (fun h=>c1 h.1)]
     generalize chk n d=z at *
     show FnOK Tryz.prog 11 [.agg [i64 0,i64 i,i64 j,i64 n,i64 d,.list 4 []]] _
     refine fn_ok (by kernel_rfl) ty_ok Tryz.func11 rfl (fun _ _=>Tryz.call11 _ _) rfl ?_
     intro hw
     clear hw
     exact zw
  ·rw [if_pos (by simpa using hl)]
   have hp:0<l.length:=List.length_pos_iff.2 hl
   have M:=tmeetings_fn l hl0
   have S:=oSame_fn ⟨0,i,j,n,d,l⟩ ⟨0,0,0,0,0,l⟩
   simp only [Rp.dc] at S ⊢
   by_cases c1:mtR l=true
   ·rw [c1] at M
    by_cases c2:(⟨0,i,j,n,d,l⟩:Rp)=⟨0,0,0,0,0,l⟩
    ·rw [if_pos ⟨c1,c2⟩]
     rw [decide_eq_true c2] at S
     refine fn_ok (by kernel_rfl) ty_ok Tryz.func11 rfl (fun _ _=>Tryz.call11 _ _) rfl ?_
     intro hw
     clear hw
     exact zw
    ·rw [if_neg (fun h=>c2 h.2)]
     rw [decide_eq_false c2] at S
     refine fn_ok (by kernel_rfl) ty_ok Tryz.func11 rfl (fun _ _=>Tryz.call11 _ _) rfl ?_
     intro hw
     clear hw
     exact zw
   ·rw [if_neg (fun h=>c1 h.1)]
    rw [show mtR l=false by simpa using c1] at M
    refine fn_ok (by kernel_rfl) ty_ok Tryz.func11 rfl (fun _ _=>Tryz.call11 _ _) rfl ?_
    intro hw
    clear hw
    exact zw
 ·rw [if_pos (by simpa using he)]
  have S:=oSame_fn ⟨e,i,j,n,d,l⟩ (rpE e)
  replace S:FnOK Tryz.prog 42 [.agg [i64 e,i64 i,i64 j,i64 n,i64 d,mts l],.agg [i64 e,i64 0,i64 0,i64 0,i64 0,.list 4 []]] (.c (.one (bol (decide ((⟨e,i,j,n,d,l⟩:Rp)=rpE e))))):=S
  by_cases c1:1≤e
  ·by_cases c2:e≤99
   ·by_cases c3:(⟨e,i,j,n,d,l⟩:Rp)=rpE e
    ·rw [if_pos ⟨c1,c2,c3⟩]
     rw [decide_eq_true c3] at S
     refine fn_ok (by kernel_rfl) ty_ok Tryz.func11 rfl (fun _ _=>Tryz.call11 _ _) rfl ?_
     intro hw
     clear hw
     exact zw
    ·rw [if_neg (fun h=>c3 h.2.2)]
     rw [decide_eq_false c3] at S
     refine fn_ok (by kernel_rfl) ty_ok Tryz.func11 rfl (fun _ _=>Tryz.call11 _ _) rfl ?_
     intro hw
     clear hw
     exact zw
   ·rw [if_neg (fun h=>c2 h.2.1)]
    refine fn_ok (by kernel_rfl) ty_ok Tryz.func11 rfl (fun _ _=>Tryz.call11 _ _) rfl ?_
    intro hw
    clear hw
    exact zw
  ·rw [if_neg (fun h=>c1 h.1)]
   refine fn_ok (by kernel_rfl) ty_ok Tryz.func11 rfl (fun _ _=>Tryz.call11 _ _) rfl ?_
   intro hw
   clear hw
   exact zw
end Go.Proofs.YtfkfficabeclcaaGreatDoor

namespace Go.Proofs.YtfkfficabeclcaaGreatDoor
open Go.RowKit Go.Sort Sx Go.Lib
def endL (l:List Str):Str:=l.flatMap fun x=>x++[10]
theorem spl_end:∀ {l:List Str},(∀ x∈l,(10:UInt8) ∉ x)→spl 10 (endL l)=l++[[]]
 | [],_=>rfl
 | x::l,h=>by
  have e:endL (x::l)=x++10::endL l:=by unfold endL;rw [List.flatMap_cons,List.append_assoc];rfl
  rw [e,spl_at _ (h x (List.mem_cons_self ..)),spl_end (fun y hy=>h y (List.mem_cons_of_mem _ hy))];rfl
theorem itoa_no10 (n:Int):(10:UInt8) ∉ itoa n:=itoa_no (by decide) (by decide)
theorem dec_len_le {u k:Nat} (hk:1≤k) (h:u<10 ^ k):(decDigits u).length≤k:=by
 rw [decDigits_length]
 have:∀ (j u:Nat),u<10 ^ (j+1)→nDigits u≤j+1:=by
  intro j
  induction j with
  | zero=>intro u hu;rw [nDigits_small (by simpa using hu)];exact Nat.le_refl _
  | succ j ih2 =>
   intro u hu
   by_cases h10:u<10
   ·rw [nDigits_small h10];omega
   ·rw [nDigits_big h10]
    have:=ih2 (u / 10) (by rw [Nat.pow_succ] at hu;omega)
    omega
 obtain ⟨j,rfl⟩:∃ j,k=j+1:=⟨k-1,by omega⟩
 exact this j u h
theorem itoa_len_le {n:Int} {k:Nat} (hk:1≤k) (h:n.natAbs<10 ^ k):(itoa n).length≤k+1:=by
 unfold itoa
 split
 ·rw [List.length_cons];have:=dec_len_le hk h;omega
 ·have:=dec_len_le (u:=n.toNat) hk (Nat.lt_of_le_of_lt (by omega) h)
  omega
end Go.Proofs.YtfkfficabeclcaaGreatDoor

namespace Go.Proofs.YtfkfficabeclcaaGreatDoor
open Go.RowKit Go.Sort Sx Go.Lib
def wErr:Str:=[101,114,114,111,114]
def wMeet:Str:=[109,101,101,116,105,110,103,115]
def wDone:Str:=[100,111,110,101]
def wLeader:Str:=[108,101,97,100,101,114]
def wPair:Str:=[112,97,105,114]
def mWords (m:Mt):List Str:=[(numV m.n m.d).1,itoa m.i,itoa m.j]
def rWords (r:Rp):List Str :=
 if r.e≠0 then [wErr,itoa r.e]
 else if r.ms≠[] then wMeet::r.ms.flatMap mWords
 else if r.d=0 then [wDone]
 else if r.j=0 then [wLeader,itoa r.i,(numV r.n r.d).1]
 else [wPair,itoa r.i,itoa r.j,(numV r.n r.d).1]
def rText (r:Rp):Str:=joinS (rWords r)
def replyV (r:Rp):Str × Int:=if rchk r=0 then (rText r,0) else ([],8)
def atoV (s:Str):Option Int:=match atoiAll s with|.ok v=>some v|_=>none
def frV (s:Str):Option (Int × Int):=if (readV s).2=0 then some (readV s).1 else none
def rdMs:List Str→Option (List Mt)
 | []=>some []
 | a::b::c::r=>match frV a,atoV b,atoV c with
  | some q,some i,some j=>(rdMs r).map fun l=>⟨q.1,q.2,i,j⟩::l
  | _,_,_=>none
 | _=>none
def rdWP (w0:Str) (t:List Str):Option Rp :=
 if w0=wDone then some rp0
 else if w0=wErr then (match t with|[a]=>(atoV a).map fun n=>rpE n|_=>none)
 else if w0=wLeader then (match t with|[a,b]=>(match atoV a,frV b with|some i,some q=>some ⟨0,i,0,q.1,q.2,[]⟩|_,_=>none)|_=>none)
 else if w0=wPair then (match t with|[a,b,c]=>(match atoV a,atoV b,frV c with|some i,some j,some q=>some ⟨0,i,j,q.1,q.2,[]⟩|_,_,_=>none)|_=>none)
 else if w0=wMeet then (rdMs t).map fun l=>⟨0,0,0,0,0,l⟩
 else none
def backR (s:Str) (r:Option Rp):Rp × Int:=match r with|some r=>if rchk r=0∧rText r=s then (r,0) else (rp0,12)|none=>(rp0,12)
def rrdP (s:Str):Rp × Int:=backR s (rdWP ((spl 32 s).headD []) (spl 32 s).tail)
def rreadP (s:Str):Rp × Int:=if 110000<s.length then (rp0,4) else rrdP s
theorem backR_ok {s:Str} {m:Option Rp} (h:(backR s m).2=0):rchk (backR s m).1=0∧rText (backR s m).1=s:=by
 unfold backR at h ⊢
 cases m with
 | none=>cases h
 | some m =>
  dsimp only at h ⊢
  split at h
  ·rename_i c;rw [if_pos c];exact c
  ·cases h
theorem backR_no {s:Str} {m:Option Rp} (h:(backR s m).2≠0):backR s m=(rp0,12):=by
 unfold backR at h ⊢
 cases m with
 | none=>rfl
 | some m =>
  dsimp only at h ⊢
  split at h
  ·exact absurd rfl h
  ·rename_i c;rw [if_neg c]
theorem backR_of {s:Str} {m:Rp} (h:rchk m=0) (e:rText m=s):backR s (some m)=(m,0):=by
 unfold backR;dsimp only;rw [if_pos ⟨h,e⟩]
theorem spl_join:∀ {l:List Str},l≠[]→(∀ x∈l,(32:UInt8) ∉ x)→spl 32 (joinS l)=l
 | [],h,_=>absurd rfl h
 | [a],_,h=>by
  show spl 32 a=[a]
  exact spl_no (h a (by simp))
 | a::b::l,_,h=>by
  show spl 32 (a++32::joinS (b::l))=_
  rw [spl_at _ (h a (by simp)),spl_join (l:=b::l) (by simp) fun x hx=>h x (List.mem_cons_of_mem _ hx)]
theorem num_no32 (n d:Int):(32:UInt8) ∉ (numV n d).1:=by
 unfold numV
 split
 ·exact wrt_no32 n d
 ·simp
theorem rWords_ne (r:Rp):rWords r≠[]:=by
 unfold rWords
 repeat' split
 all_goals simp
theorem rWords_no (r:Rp):∀ x∈rWords r,(32:UInt8) ∉ x:=by
 intro x hx
 have w1:(32:UInt8) ∉ wErr:=by decide
 have w2:(32:UInt8) ∉ wMeet:=by decide
 have w3:(32:UInt8) ∉ wDone:=by decide
 have w4:(32:UInt8) ∉ wLeader:=by decide
 have w5:(32:UInt8) ∉ wPair:=by decide
 unfold rWords at hx
 split at hx
 ·rcases List.mem_cons.1 hx with rfl|hx
  ·exact w1
  ·obtain rfl:=List.mem_singleton.1 hx;exact itoa_no32 _
 split at hx
 ·rcases List.mem_cons.1 hx with rfl|hx
  ·exact w2
  ·obtain ⟨m,_,hm⟩:=List.mem_flatMap.1 hx
   unfold mWords at hm
   simp only [List.mem_cons,List.not_mem_nil,or_false] at hm
   rcases hm with rfl|rfl|rfl
   ·exact num_no32 _ _
   ·exact itoa_no32 _
   ·exact itoa_no32 _
 split at hx
 ·obtain rfl:=List.mem_singleton.1 hx;exact w3
 split at hx
 ·simp only [List.mem_cons,List.not_mem_nil,or_false] at hx
  rcases hx with rfl|rfl|rfl
  ·exact w4
  ·exact itoa_no32 _
  ·exact num_no32 _ _
 ·simp only [List.mem_cons,List.not_mem_nil,or_false] at hx
  rcases hx with rfl|rfl|rfl|rfl
  ·exact w5
  ·exact itoa_no32 _
  ·exact itoa_no32 _
  ·exact num_no32 _ _
theorem spl_text (r:Rp):spl 32 (rText r)=rWords r:=spl_join (rWords_ne r) (rWords_no r)
theorem dec_ne2 (u:Nat):∃ b r,decDigits u=b::r∧b≠45∧b≠43:=by
 have hd:=decFrom_dec u
 cases h:decDigits u with
 | nil =>
  have:=decDigits_length u
  rw [h] at this
  have h2:0<nDigits u:=by
   by_cases h10:u<10
   ·rw [nDigits_small h10];omega
   ·rw [nDigits_big (by omega)];omega
  simp at this
  omega
 | cons b r =>
  rw [h,decFrom] at hd
  refine ⟨b,r,rfl,?_,?_⟩
  ·rintro rfl;cases hd
  ·rintro rfl;cases hd
theorem decNat_dec (u:Nat):decNat (decDigits u)=some u:=by
 obtain ⟨b,r,h,_⟩:=dec_ne2 u
 unfold decNat
 rw [if_neg (by rw [h];simp),decFrom_dec]
theorem atoi_itoa (n:Int):atoi (itoa n)=some n:=by
 unfold itoa
 split
 ·rename_i h
  unfold atoi
  simp only [beq_self_eq_true,if_true]
  rw [decNat_dec]
  simp
  omega
 ·rename_i h
  obtain ⟨b,r,hb,h1,h2⟩:=dec_ne2 n.toNat
  have e:=decNat_dec n.toNat
  rw [hb] at e ⊢
  unfold atoi
  simp only [beq_iff_eq,h1,h2,if_false]
  rw [e]
  simp
  omega
theorem atoV_itoa {n:Int} (h:n.natAbs<10 ^ 17):atoV (itoa n)=some n:=by
 have hl:=itoa_len_le (n:=n) (k:=17) (by decide) h
 unfold atoV
 rw [atoiAll_short _ (by omega),atoi_itoa]
 rfl
theorem atoV_id {n:Int} (h0:0≤n) (h1:n≤65535):atoV (itoa n)=some n:=atoV_itoa (by rw [show (10:Nat) ^ 17=100000000000000000 by decide];omega)
end Go.Proofs.YtfkfficabeclcaaGreatDoor

namespace Go.Proofs.YtfkfficabeclcaaGreatDoor
open Go.RowKit Go.Sort Sx Go.Lib
def fit2 (n d:Int):Prop:=fitI n∧fitI d
def rin (r:Rp):Prop:=fit2 r.n r.d∧∀ m∈r.ms,fit2 m.n m.d
theorem frV_of {n d:Int} (h:chk n d=0) (hf:fit2 n d):frV (numV n d).1=some (n,d):=by
 unfold frV
 rw [show (numV n d).1=wrtV n d by unfold numV;rw [if_pos h],readV_is.of n d h hf.1 hf.2]
 rfl
theorem frV_fit {s:Str} {q:Int × Int} (h:frV s=some q):fit2 q.1 q.2:=by
 unfold frV at h
 split at h
 ·rename_i h0
  injection h with h
  subst h
  exact readV_is.fit s h0
 ·cases h
theorem mRun_ok:∀ {p:Option Mt} {l:List Mt},mRun p l=true→∀ m∈l,mOk m=true
 | _,[],_,m,h=>by cases h
 | none,x::r,h,m,hm=>by
  unfold mRun at h
  simp only [Bool.and_eq_true] at h
  rcases List.mem_cons.1 hm with rfl|hm
  ·exact h.1
  ·exact mRun_ok h.2 m hm
 | some p,x::r,h,m,hm=>by
  unfold mRun at h
  simp only [Bool.and_eq_true] at h
  rcases List.mem_cons.1 hm with rfl|hm
  ·exact h.1.1
  ·exact mRun_ok h.2 m hm
theorem rdMs_of:∀ {l:List Mt},(∀ m∈l,mOk m=true)→(∀ m∈l,fit2 m.n m.d)→rdMs (l.flatMap mWords)=some l
 | [],_,_=>rfl
 | m::l,h,hf=>by
  obtain ⟨c1,c2,c3,c4⟩:=mOk_i.1 (h m (List.mem_cons_self ..))
  have ih:=rdMs_of (l:=l) (fun x hx=>h x (List.mem_cons_of_mem _ hx)) fun x hx=>hf x (List.mem_cons_of_mem _ hx)
  rw [List.flatMap_cons]
  show rdMs ((numV m.n m.d).1::itoa m.i::itoa m.j::l.flatMap mWords)=_
  rw [rdMs,frV_of c1 (hf m (List.mem_cons_self ..)),atoV_id c2 (by omega),atoV_id (by omega) c4,ih]
  rfl
theorem rchk_cases {r:Rp} (h:rchk r=0):(1≤r.e∧r.e≤99∧r=rpE r.e)∨(r.ms≠[]∧mtR r.ms=true∧r=⟨0,0,0,0,0,r.ms⟩)∨(r.d≠0∧chk r.n r.d=0∧0≤r.i∧r.i≤65535∧r=⟨0,r.i,0,r.n,r.d,[]⟩)∨(r.d≠0∧chk r.n r.d=0∧0≤r.i∧r.i<r.j∧r.j≤65535∧0≤r.n∧r=⟨0,r.i,r.j,r.n,r.d,[]⟩)∨r=rp0:=by
 obtain ⟨e,i,j,n,d,l⟩:=r
 unfold rchk at h
 simp only at h ⊢
 split at h
 ·split at h
  ·rename_i hc;exact .inl hc
  ·omega
 rename_i he
 have he:e=0:=Decidable.not_not.1 he
 subst he
 split at h
 ·rename_i hl
  split at h
  ·rename_i hc;exact .inr (.inl ⟨hl,hc.1,hc.2⟩)
  ·omega
 rename_i hl
 have hl:l=[]:=Decidable.not_not.1 hl
 subst hl
 split at h
 ·rename_i hd
  split at h
  ·rename_i hc
   obtain ⟨c1,c2,c3⟩:=hc
   unfold nmd at c2
   simp only [Bool.and_eq_true,decide_eq_true_eq] at c2
   rcases c3 with rfl|⟨c4,c5,c6⟩
   ·exact .inr (.inr (.inl ⟨hd,c1,c2.1,c2.2,rfl⟩))
   ·unfold nmd at c5
    simp only [Bool.and_eq_true,decide_eq_true_eq] at c5
    exact .inr (.inr (.inr (.inl ⟨hd,c1,c2.1,c4,c5.2,c6,rfl⟩)))
  ·omega
 ·split at h
  ·rename_i hc;exact .inr (.inr (.inr (.inr hc)))
  ·omega
end Go.Proofs.YtfkfficabeclcaaGreatDoor

namespace Go.Proofs.YtfkfficabeclcaaGreatDoor
open Go.RowKit Go.Sort Sx Go.Lib
theorem words_e {e:Int} (h:e≠0):rWords (rpE e)=[wErr,itoa e]:=if_pos h
theorem words_m {l:List Mt} (h:l≠[]):rWords ⟨0,0,0,0,0,l⟩=wMeet::l.flatMap mWords:=by
 unfold rWords
 rw [if_neg (by simp),if_pos h]
theorem words_l {i n d:Int} (h:d≠0):rWords ⟨0,i,0,n,d,[]⟩=[wLeader,itoa i,(numV n d).1]:=by
 unfold rWords
 rw [if_neg (by simp),if_neg (by simp),if_neg h,if_pos rfl]
theorem words_p {i j n d:Int} (h:d≠0) (hj:j≠0):rWords ⟨0,i,j,n,d,[]⟩=[wPair,itoa i,itoa j,(numV n d).1]:=by
 unfold rWords
 rw [if_neg (by simp),if_neg (by simp),if_neg h,if_neg hj]
theorem rdWP_of {r:Rp} (h:rchk r=0) (hf:rin r):rdWP ((rWords r).headD []) (rWords r).tail=some r:=by
 rcases rchk_cases h with ⟨h1,h2,h3⟩|⟨h1,h2,h3⟩|⟨h0,h1,h2,h3,h4⟩|⟨h0,h1,h2,h3,h4,h5,h6⟩|h1
 ·rw [h3,words_e (by omega)]
  show rdWP wErr [itoa r.e]=_
  unfold rdWP
  rw [if_neg (by decide),if_pos rfl]
  show (atoV (itoa r.e)).map _=_
  rw [atoV_id (by omega) (by omega)]
  rfl
 ·have hm:=hf.2
  rw [h3,words_m h1]
  show rdWP wMeet (r.ms.flatMap mWords)=_
  unfold rdWP
  rw [if_neg (by decide),if_neg (by decide),if_neg (by decide),if_neg (by decide),if_pos rfl,rdMs_of (mRun_ok (by unfold mtR at h2;simp only [Bool.and_eq_true] at h2;exact h2.1)) hm]
  rfl
 ·have hm:=hf.1
  rw [h4,words_l h0]
  show rdWP wLeader [itoa r.i,(numV r.n r.d).1]=_
  unfold rdWP
  rw [if_neg (by decide),if_neg (by decide),if_pos rfl]
  show (match atoV (itoa r.i),frV (numV r.n r.d).1 with|some i,some q=>_|_,_=>_)=_
  rw [atoV_id h2 h3,frV_of h1 hm]
 ·have hm:=hf.1
  rw [h6,words_p h0 (by omega)]
  show rdWP wPair [itoa r.i,itoa r.j,(numV r.n r.d).1]=_
  unfold rdWP
  rw [if_neg (by decide),if_neg (by decide),if_neg (by decide),if_pos rfl]
  show (match atoV (itoa r.i),atoV (itoa r.j),frV (numV r.n r.d).1 with|some i,some j,some q=>_|_,_,_=>_)=_
  rw [atoV_id h2 (by omega),atoV_id (by omega) h4,frV_of h1 hm]
 ·subst h1;rfl
theorem fit2_0:fit2 0 0:=by unfold fit2 fitI;omega
theorem rin_e (e:Int):rin (rpE e):=⟨fit2_0,fun m h=>by cases h⟩
theorem rdMs_fit:∀ {w:List Str} {l:List Mt},rdMs w=some l→∀ m∈l,fit2 m.n m.d
 | [],l,h=>by rw [rdMs] at h;injection h with h;subst h;intro m hm;cases hm
 | [_],l,h=>by cases h
 | [_,_],l,h=>by cases h
 | a::b::c::r,l,h=>by
  rw [rdMs] at h
  cases ha:frV a with
  | none=>rw [ha] at h;cases h
  | some q =>
   cases hb:atoV b with
   | none=>rw [ha,hb] at h;cases h
   | some i =>
    cases hc:atoV c with
    | none=>rw [ha,hb,hc] at h;cases h
    | some j =>
     rw [ha,hb,hc] at h
     cases hr:rdMs r with
     | none=>rw [hr] at h;cases h
     | some l' =>
      rw [hr] at h
      injection h with h
      subst h
      intro m hm
      rcases List.mem_cons.1 hm with rfl|hm
      ·exact frV_fit ha
      ·exact rdMs_fit hr m hm
theorem rdWP_rin {w0:Str} {t:List Str} {r:Rp} (h:rdWP w0 t=some r):rin r:=by
 unfold rdWP at h
 split at h
 ·injection h with h;subst h;exact rin_e 0
 split at h
 ·match t,h with
  | [a],h =>
   cases ha:atoV a with
   | none=>simp only [ha] at h;cases h
   | some n=>simp only [ha] at h;injection h with h;subst h;exact rin_e n
 split at h
 ·match t,h with
  | [a,b],h =>
   cases ha:atoV a with
   | none=>simp only [ha] at h;cases h
   | some i =>
    cases hb:frV b with
    | none=>simp only [ha,hb] at h;cases h
    | some q=>simp only [ha,hb] at h;injection h with h;subst h;exact ⟨frV_fit hb,fun m h=>by cases h⟩
 split at h
 ·match t,h with
  | [a,b,c],h =>
   cases ha:atoV a with
   | none=>simp only [ha] at h;cases h
   | some i =>
    cases hb:atoV b with
    | none=>simp only [ha,hb] at h;cases h
    | some j =>
     cases hc:frV c with
     | none=>simp only [ha,hb,hc] at h;cases h
     | some q=>simp only [ha,hb,hc] at h;injection h with h;subst h;exact ⟨frV_fit hc,fun m h=>by cases h⟩
 split at h
 ·cases hm:rdMs t with
  | none=>rw [hm] at h;cases h
  | some l=>rw [hm] at h;injection h with h;subst h;exact ⟨fit2_0,rdMs_fit hm⟩
 ·cases h
theorem backR_rin {s:Str} {m:Option Rp} (hm:∀ r,m=some r→rin r):rin (backR s m).1:=by
 unfold backR
 cases m with
 | none=>exact rin_e 0
 | some r =>
  dsimp only
  split
  ·exact hm r rfl
  ·exact rin_e 0
theorem rrdP_is:Reads rText (fun r=>rchk r=0∧rin r) rp0 rrdP:=by
 refine ⟨fun s h => ?_,fun s h=>backR_no h,fun r hr => ?_⟩
 ·obtain ⟨h1,h2⟩:=backR_ok h
  exact ⟨⟨h1,backR_rin fun r hr=>rdWP_rin hr⟩,h2⟩
 ·unfold rrdP
  rw [spl_text,rdWP_of hr.1 hr.2]
  exact backR_of hr.1 rfl
end Go.Proofs.YtfkfficabeclcaaGreatDoor

namespace Go.Proofs.YtfkfficabeclcaaGreatDoor
open Go Go.RowKit Go.Sort Sx
open Go.Lib hiding intOf
end Go.Proofs.YtfkfficabeclcaaGreatDoor

namespace Go.Proofs.YtfkfficabeclcaaGreatDoor
open Go Go.RowKit Go.Sort Sx
open Go.Lib hiding intOf
set_option maxRecDepth 2000
end Go.Proofs.YtfkfficabeclcaaGreatDoor

namespace Go.Proofs.YtfkfficabeclcaaGreatDoor
open Go Go.RowKit Go.Sort Sx
open Go.Lib hiding intOf
set_option maxRecDepth 2000
def mText (m:Mt):Str:=joinS (mWords m)
theorem mText_is (m:Mt):mText m=(((numV m.n m.d).1++[32])++itoa m.i++[32])++itoa m.j:=by
 unfold mText mWords
 show (numV m.n m.d).1++32::(itoa m.i++32::itoa m.j)=_
 simp
theorem numV_len {n d:Int} (h1:in64 n) (h2:in64 d):(numV n d).1.length≤43:=by
 unfold numV
 split
 ·exact wrtV_le h1 h2
 ·simp
theorem joinS_cons (a:Str) {l:List Str} (h:l≠[]):joinS (a::l)=a++32::joinS l:=by
 cases l with
 | nil=>exact absurd rfl h
 | cons b l=>rfl
theorem joinS_words:∀ (w:Str) (l:List Mt),joinS (w::l.flatMap mWords)=w++l.flatMap fun m=>32::mText m
 | w,[]=>by simp [joinS]
 | w,m::l=>by
  have ih:=joinS_words (itoa m.j) l
  rw [List.flatMap_cons,List.flatMap_cons]
  show joinS (w::(numV m.n m.d).1::itoa m.i::itoa m.j::l.flatMap mWords)=_
  rw [joinS_cons w (by simp),joinS_cons _ (by simp),joinS_cons _ (by simp),ih,mText_is]
  simp
end Go.Proofs.YtfkfficabeclcaaGreatDoor

namespace Go.Proofs.YtfkfficabeclcaaGreatDoor
open Go Go.RowKit Go.Sort Sx
set_option maxRecDepth 2000
def nxtV (l:List Pt) (n e:Int):Mt × Int:=if h:bcnt (allM l) n e<(allM l).length then ((allM l)[bcnt (allM l) n e],0) else (⟨0,0,0,0⟩,6)
abbrev retNx (x:Mt × Int):DV:=.tup [x.1.dc,.one (i64 x.2)]
theorem mcheck1_fn {l:List Pt} {n e:Int} (h1:fchk l=0) (h2:chk n e=0):FnOK Tryz.prog 155 [fld l,.one (.list 2 [[i64 n,i64 e]])] (ret1 0):=by
 have H1:=fCheck_fn l
 have H2:=check_fn n e
 rw [h1] at H1
 rw [h2] at H2
 have hel0:([[i64 n,i64 e]]:List (List D))[((0:Nat):Int).toNat]? = some [i64 n,i64 e]:=rfl
 have hlen:([[i64 n,i64 e]]:List (List D)).length=1:=rfl
 refine fn_ok (by kernel_rfl) ty_ok Tryz.func155 rfl (fun _ _=>Tryz.call155 _ _) rfl ?_
 intro hw
 clear hw
 repeat' ((conv=>whnf);first|(with_reducible first|refine br_t ?_|refine br_f ?_|refine za ?_|refine zg ?_)|refine zp ?_|refine zq ?_|(with_reducible first|refine bc (fun h => ?_) (fun h => ?_)|refine zt ?_|refine zf ?_|refine br_i (fun h => ?_) (fun h => ?_))|refine zg ?_|refine zi ?_|refine zb ?_)
 refine loop_J (by kernel_rfl) ty_ok (σ:=Nat) (fun i=>[(16,sV (.int .i64 i))]) (fun _=>[]) (fun i=>i=0∨i=1) (fun i=>1-i) 0 (.inl rfl) ?_ ?_
 ·(conv=>whnf);exact zent
 intro i hi
 rcases hi with rfl|rfl
 ·repeat' ((conv=>whnf);first|(with_reducible first|refine br_t ?_|refine br_f ?_|refine za ?_|refine zg ?_)|refine zp ?_|refine zq ?_|(with_reducible first|refine bc (fun h => ?_) (fun h => ?_)|refine zt ?_|refine zf ?_|refine br_i (fun h => ?_) (fun h => ?_))|refine zg ?_|refine zi ?_|refine zb ?_)
  all_goals conv=>whnf
  refine ⟨1,.inr rfl,?_,by show 1-1<1-0;decide⟩
  (conv=>whnf);exact zent
 ·exact zw
theorem mNext_fn {l:List Pt} {n e:Int} (h1:fchk l=0) (h2:chk n e=0):FnOK Tryz.prog 94 [fld l,rat n e] (retNx (nxtV l n e)):=by
 have H1:=mcheck1_fn h1 h2
 have H2:=mall_fn h1
 have hasc:=allM_asc h1
 have hlen:(allM l).length≤4096:=by rw [msrt_len];exact outs_len2 (fchk_ok h1).1
 have H3:=mbehind_fn (allM l) n e hasc h2 (by omega)
 have hb:=bcnt_le (allM l) n e
 unfold nxtV
 generalize allM l=L at *
 have hll:(L.map Mt.c).length=L.length:=List.length_map ..
 by_cases h:bcnt L n e<L.length
 ·rw [dif_pos h]
  have hel:=mts_get h
  generalize L[bcnt L n e]=m at *
  generalize bcnt L n e=a at *
  obtain ⟨m1,m2,m3,m4⟩:=m
  simp only [retNx,Mt.dc] at *
  refine fn_ok (by kernel_rfl) ty_ok Tryz.func94 rfl (fun _ _=>Tryz.call94 _ _) rfl ?_
  intro hw
  clear hw
  repeat' ((conv=>whnf);first|(with_reducible first|refine br_t ?_|refine br_f ?_|refine za ?_|refine zg ?_)|rw [List.length_map]|refine zp ?_|refine zq ?_|(with_reducible first|refine bc (fun h => ?_) (fun h => ?_)|refine zt ?_|refine zf ?_|refine br_i (fun h => ?_) (fun h => ?_))|refine zg ?_|refine zi ?_|refine zb ?_)
  all_goals conv=>whnf
  all_goals rfl
 ·rw [dif_neg h]
  generalize bcnt L n e=a at *
  simp only [retNx,Mt.dc]
  refine fn_ok (by kernel_rfl) ty_ok Tryz.func94 rfl (fun _ _=>Tryz.call94 _ _) rfl ?_
  intro hw
  clear hw
  repeat' ((conv=>whnf);first|(with_reducible first|refine br_t ?_|refine br_f ?_|refine za ?_|refine zg ?_)|rw [List.length_map]|refine zp ?_|refine zq ?_|(with_reducible first|refine bc (fun h => ?_) (fun h => ?_)|refine zt ?_|refine zf ?_|refine br_i (fun h => ?_) (fun h => ?_))|refine zg ?_|refine zi ?_|refine zb ?_)
  all_goals conv=>whnf
  all_goals rfl
end Go.Proofs.YtfkfficabeclcaaGreatDoor
