import Derived.Test.YtfkfficabeclcaaGreatDoorGLTTelAT
import Derived.Test.YtfkfficabeclcaaGreatDoorGLTTelAQ
import Derived.Lib.ItoaLen
import Derived.Lib.Atoi
import Derived.Test.YtfkfficabeclcaaGreatDoorGLTTelAM
import Derived.Test.YtfkfficabeclcaaGreatDoorGLTTelAK
import Derived.ScopeJumps
import Derived.WalkMore
import Derived.Lib.Split
import Derived.Lib.Join
import Derived.Lib.CutLaws
set_option linter.all false
namespace Go.Proofs.YtfkfficabeclcaaGreatDoor
open Go Go.RowKit Go.Sort Sx
set_option maxRecDepth 2000
def ldP (l:List Pt) (n m:Int):Pt:=(srt n m l)[0]?.getD default
def askV (m:Md) (a:Ak):Md × Rp :=
 if formV a then
  (if a.k=1 then (if (putV m.l a.p).2=0 then (⟨m.n,m.d,(putV m.l a.p).1⟩,rp0) else (m,rpE (putV m.l a.p).2))
  else if a.k=2 then (if (takeV m.l a.id).2=0 then (⟨m.n,m.d,(takeV m.l a.id).1⟩,rp0) else (m,rpE (takeV m.l a.id).2))
  else if a.k=3 then (if (changeV m.l a.p).2=0 then (⟨m.n,m.d,(changeV m.l a.p).1⟩,rp0) else (m,rpE (changeV m.l a.p).2))
  else if a.k=4 then (if askd a.n a.d=0 then (if a.n*m.d≤m.n*a.d then (m,rpE 44) else (⟨a.n,a.d,m.l⟩,⟨0,0,0,0,0,btw (allM m.l) m.n m.d a.n a.d⟩)) else (m,rpE (askd a.n a.d)))
  else if a.k=5 then (if m.l.length=0 then (m,rpE 42) else (m,⟨0,(ldP m.l m.n m.d).id,0,(plc (ldP m.l m.n m.d) m.n m.d).1,(plc (ldP m.l m.n m.d) m.n m.d).2,[]⟩))
  else (m,⟨(closV m.l m.n m.d).2.2.2.2,(closV m.l m.n m.d).1,(closV m.l m.n m.d).2.1,(closV m.l m.n m.d).2.2.1,(closV m.l m.n m.d).2.2.2.1,[]⟩))
 else (m,rpE 12)
abbrev retA (x:Md × Rp):DV:=.tup [x.1.dc,x.2.dc]
theorem ldP_mem {l:List Pt} {n m:Int} (h:l.length≠0):ldP l n m∈l:=by
 have h0:0<(srt n m l).length:=by rw [srt_len];omega
 unfold ldP
 rw [List.getElem?_eq_getElem h0]
 exact (srt_perm n m l).mem_iff.1 (List.getElem_mem h0)
theorem pos_mem {l:List Pt} {p:Pt} (hs:incr l=true) (hp:p∈l):has l p.id=true∧l[pos l p.id]?.getD default=p:=by
 have hh:has l p.id=true:=List.any_eq_true.2 ⟨p,hp,by simp⟩
 refine ⟨hh,?_⟩
 obtain ⟨hlt,he⟩:=(has_pos hs).1 hh
 rw [List.getElem?_eq_getElem hlt]
 obtain ⟨k,hk,rfl⟩:=List.getElem_of_mem hp
 have:pos l l[k].id=k:=by
  rcases Nat.lt_trichotomy (pos l l[k].id) k with h|h|h
  ·have:=incr_lt hs k _ hk h;omega
  ·exact h
  ·have:=incr_lt hs _ k hlt h;omega
 show l[pos l l[k].id]=l[k]
 exact getElem_congr rfl this _
theorem leadV_ok {l:List Pt} {n m:Int} (h1:fchk l=0) (h2:chk n m=0):leadV l n m=if l.length=0 then (0,42) else ((ldP l n m).id,0):=by
 unfold leadV tchk ldP
 rw [if_pos h1,if_pos h2]
theorem oask_fn {m:Md} (hm:mchk m=0) (a:Ak):FnOK Tryz.prog 52 [m.dc,a.dc] (retA (askV m a)):=by
 obtain ⟨g1,g2⟩:=mchk_ok hm
 obtain ⟨k1,k2,k3⟩:=fchk_ok g2
 obtain ⟨t1,_,_,_,_⟩:=askd_ok g1
 have H0:=oformed_fn a
 have HC:=clonePt_own (m.l.map Pt.c) (by simp;omega)
 have HC':=ok_of_own HC
 have hk:formV a=true→a.k=1∨a.k=2∨a.k=3∨a.k=4∨a.k=5∨a.k=6:=fun h=>by
  unfold formV at h
  have:=of_decide_eq_true h
  omega
 unfold askV
 cases hf:formV a
 ·rw [hf] at H0
  rw [if_neg (by decide)]
  clear HC
  refine fn_ok (by kernel_rfl) ty_ok Tryz.func52 rfl (fun _ _=>Tryz.call52 _ _) rfl ?_
  intro hw
  clear hw
  exact zw
 ·rw [hf] at H0
  rw [if_pos rfl]
  rcases hk hf with h|h|h|h|h|h
  ·rw [if_pos h]
   have H1:=fPut_fn m.l a.p
   have H2:=oask1_mem (putV m.l a.p).1 (putV m.l a.p).2 rp0 m.n m.d m.l
   simp only [retFl] at H1
   simp only [Rp.c,rp0,mts,List.map_nil] at H2
   by_cases h0:(putV m.l a.p).2=0
   ·rw [if_pos h0] at H2 ⊢
    rw [h0] at H1 H2
    generalize (putV m.l a.p).1=f at *
    clear HC
    refine fn_ok (by kernel_rfl) (ty_okK [] [] [] [98]) Tryz.func52 rfl (fun _ _=>Tryz.call52 _ _) rfl ?_
    intro hw
    clear hw
    exact zw
   ·rw [if_neg h0] at H2 ⊢
    generalize (putV m.l a.p).1=f at *
    generalize (putV m.l a.p).2=z at *
    clear HC
    refine fn_ok (by kernel_rfl) (ty_okK [] [] [] [98]) Tryz.func52 rfl (fun _ _=>Tryz.call52 _ _) rfl ?_
    intro hw
    clear hw
    exact zw
  ·rw [if_neg (by omega),if_pos h]
   have H1:=fTake_fn m.l a.id
   have H2:=oask1_mem (takeV m.l a.id).1 (takeV m.l a.id).2 rp0 m.n m.d m.l
   simp only [retFl] at H1
   simp only [Rp.c,rp0,mts,List.map_nil] at H2
   by_cases h0:(takeV m.l a.id).2=0
   ·rw [if_pos h0] at H2 ⊢
    rw [h0] at H1 H2
    generalize (takeV m.l a.id).1=f at *
    clear HC
    refine fn_ok (by kernel_rfl) (ty_okK [] [] [] [98]) Tryz.func52 rfl (fun _ _=>Tryz.call52 _ _) rfl ?_
    intro hw
    clear hw
    exact zw
   ·rw [if_neg h0] at H2 ⊢
    generalize (takeV m.l a.id).1=f at *
    generalize (takeV m.l a.id).2=z at *
    clear HC
    refine fn_ok (by kernel_rfl) (ty_okK [] [] [] [98]) Tryz.func52 rfl (fun _ _=>Tryz.call52 _ _) rfl ?_
    intro hw
    clear hw
    exact zw
  ·rw [if_neg (by omega),if_neg (by omega),if_pos h]
   have H1:=fChange_fn m.l a.p
   have H2:=oask1_mem (changeV m.l a.p).1 (changeV m.l a.p).2 rp0 m.n m.d m.l
   simp only [retFl] at H1
   simp only [Rp.c,rp0,mts,List.map_nil] at H2
   by_cases h0:(changeV m.l a.p).2=0
   ·rw [if_pos h0] at H2 ⊢
    rw [h0] at H1 H2
    generalize (changeV m.l a.p).1=f at *
    clear HC
    refine fn_ok (by kernel_rfl) (ty_okK [] [] [] [98]) Tryz.func52 rfl (fun _ _=>Tryz.call52 _ _) rfl ?_
    intro hw
    clear hw
    exact zw
   ·rw [if_neg h0] at H2 ⊢
    generalize (changeV m.l a.p).1=f at *
    generalize (changeV m.l a.p).2=z at *
    clear HC
    refine fn_ok (by kernel_rfl) (ty_okK [] [] [] [98]) Tryz.func52 rfl (fun _ _=>Tryz.call52 _ _) rfl ?_
    intro hw
    clear hw
    exact zw
  ·rw [if_neg (by omega),if_neg (by omega),if_neg (by omega),if_pos h]
   have H1:=asked_fn a.n a.d
   by_cases h1:askd a.n a.d=0
   ·rw [if_pos h1]
    rw [h1] at H1
    have t2:=(askd_ok h1).1
    have H2:=cmp_fn a.n a.d m.n m.d
    unfold cmpV bth at H2
    rw [if_pos (by rw [t2,if_pos rfl,t1])] at H2
    by_cases h2:a.n*m.d≤m.n*a.d
    ·rw [if_pos h2]
     have h3:cmpN (a.n*m.d) (m.n*a.d)≤0:=by unfold cmpN;(repeat' split)<;>omega
     generalize cmpN (a.n*m.d) (m.n*a.d)=z at *
     simp only [ret2] at H2
     clear HC
     refine fn_ok (by kernel_rfl) ty_ok Tryz.func52 rfl (fun _ _=>Tryz.call52 _ _) rfl ?_
     intro hw
     clear hw
     exact zw
    ·rw [if_neg h2]
     have h3:¬ cmpN (a.n*m.d) (m.n*a.d)≤0:=by unfold cmpN;(repeat' split)<;>omega
     have H3:=mAll_fn m.l m.n m.d a.n a.d
     have h4:mchk2 m.l m.n m.d a.n a.d=0:=by unfold mchk2;rw [if_pos g2,if_pos t1,if_pos t2,if_neg (by omega)]
     unfold mallV at H3
     rw [if_pos h4] at H3
     generalize btw (allM m.l) m.n m.d a.n a.d=L at *
     generalize cmpN (a.n*m.d) (m.n*a.d)=z at *
     simp only [ret2] at H2
     simp only [retMts] at H3
     clear HC
     refine fn_ok (by kernel_rfl) ty_ok Tryz.func52 rfl (fun _ _=>Tryz.call52 _ _) rfl ?_
     intro hw
     clear hw
     exact zw
   ·rw [if_neg h1]
    generalize askd a.n a.d=z at *
    clear HC
    refine fn_ok (by kernel_rfl) ty_ok Tryz.func52 rfl (fun _ _=>Tryz.call52 _ _) rfl ?_
    intro hw
    clear hw
    exact zw
  ·rw [if_neg (by omega),if_neg (by omega),if_neg (by omega),if_neg (by omega),if_pos h]
   have H1:=fLeader_fn m.l m.n m.d
   rw [leadV_ok g2 t1] at H1
   by_cases h1:m.l.length=0
   ·rw [if_pos h1] at H1 ⊢
    clear HC
    refine fn_ok (by kernel_rfl) ty_ok Tryz.func52 rfl (fun _ _=>Tryz.call52 _ _) rfl ?_
    intro hw
    clear hw
    exact zw
   ·rw [if_neg h1] at H1 ⊢
    have hmem:=ldP_mem (n:=m.n) (m:=m.d) h1
    obtain ⟨p1,p2⟩:=pos_mem k3 hmem
    have H2:=fFind_fn m.l (ldP m.l m.n m.d).id
    unfold findV at H2
    rw [if_pos g2,if_pos p1,p2] at H2
    have H3:=kAt_fn (ldP m.l m.n m.d).id (ldP m.l m.n m.d).a (ldP m.l m.n m.d).b m.n m.d
    rw [(plc_ok (k2 _ hmem) g1).1] at H3
    simp only [ret3] at H3
    simp only [ret2] at H1
    generalize ldP m.l m.n m.d=p at *
    clear HC
    refine fn_ok (by kernel_rfl) ty_ok Tryz.func52 rfl (fun _ _=>Tryz.call52 _ _) rfl ?_
    intro hw
    clear hw
    exact zw
  ·rw [if_neg (by omega),if_neg (by omega),if_neg (by omega),if_neg (by omega),if_neg (by omega)]
   have H1:=oClosest_fn m.l m.n m.d
   generalize closV m.l m.n m.d=x at *
   clear HC
   refine fn_ok (by kernel_rfl) ty_ok Tryz.func52 rfl (fun _ _=>Tryz.call52 _ _) rfl ?_
   intro hw
   clear hw
   exact zw
end Go.Proofs.YtfkfficabeclcaaGreatDoor

namespace Go.Proofs.YtfkfficabeclcaaGreatDoor
open Go Go.RowKit Go.Sort Sx
structure InsO (L0:List Mt) (i:Nat) (L:List Mt):Prop where
 p:L.Perm L0
 o:∀ a b (h:a<b) (hb:b<L.length),b<i→¬ mlt L[b] L[a]
structure InsI (L0:List Mt) (i k:Nat) (L:List Mt):Prop where
 p:L.Perm L0
 hk:k≤i
 hi:i<L.length
 o:∀ a b (h:a<b) (hb:b<L.length),b≤i→b≠k→¬ mlt L[b] L[a]
def swp (L:List Mt) (k:Nat) (h:k<L.length):List Mt:=(L.set k L[k-1]).set (k-1) L[k]
theorem swp_len {L:List Mt} {k:Nat} (h:k<L.length):(swp L k h).length=L.length:=by simp [swp]
theorem swp_get {L:List Mt} {k:Nat} (h:k<L.length) (h0:0<k) {b:Nat} (hb:b<(swp L k h).length) :
  (swp L k h)[b]=if b=k-1 then L[k] else if b=k then L[k-1] else L[b]'(by rw [swp_len] at hb;exact hb):=by
 simp only [swp,List.getElem_set,eq_comm (b:=b)]
theorem swap_at {x y:Mt} {l r:List Mt}:(l++y::x::r).Perm (l++x::y::r):=List.Perm.append_left l (List.Perm.swap ..)
theorem swp_perm {L:List Mt} {k:Nat} (h:k<L.length) (h0:0<k):(swp L k h).Perm L:=by
 obtain ⟨j,rfl⟩:∃ j,k=j+1:=⟨k-1,by omega⟩
 have e1:L=L.take j++L[j]::L[j+1]::L.drop (j+2):=by
  rw [← List.drop_eq_getElem_cons h,← List.drop_eq_getElem_cons (by omega),List.take_append_drop]
 have e2:swp L (j+1) h=L.take j++L[j+1]::L[j]::L.drop (j+2):=by
  refine List.ext_getElem (by rw [swp_len];simp;omega) fun b h1 h2 => ?_
  rw [swp_get h h0]
  rw [swp_len] at h1
  simp only [Nat.add_sub_cancel]
  rcases Nat.lt_trichotomy b j with c|c|c
  ·rw [if_neg (by omega),if_neg (by omega),List.getElem_append_left (by simp;omega),List.getElem_take]
  ·subst c
   have hm:min b L.length=b:=Nat.min_eq_left (by omega)
   rw [if_pos rfl,List.getElem_append_right (by rw [List.length_take];omega)]
   simp only [List.length_take,hm,Nat.sub_self,List.getElem_cons_zero]
  ·rw [if_neg (by omega),List.getElem_append_right (by simp;omega)]
   by_cases c1:b=j+1
   ·subst c1
    have key:∀ q,q=1→∀ (hq:q<(L[j+1]::L[j]::List.drop (j+2) L).length),(L[j+1]::L[j]::List.drop (j+2) L)[q]=L[j]:=by rintro _ rfl _;rfl
    rw [if_pos rfl]
    exact (key _ (by rw [List.length_take];omega) _).symm
   ·obtain ⟨d,rfl⟩:∃ d,b=j+(d+2):=⟨b-j-2,by omega⟩
    rw [if_neg c1]
    simp only [List.length_take,Nat.min_eq_left (show j≤L.length by omega),Nat.add_sub_cancel_left,List.getElem_cons_succ,List.getElem_drop]
    exact getElem_congr rfl (by omega) _
 rw [e2]
 conv=>rhs;rw [e1]
 exact swap_at
theorem InsI.start {L0 L:List Mt} {i:Nat} (H:InsO L0 i L) (h:i<L.length):InsI L0 i i L:=⟨H.p,Nat.le_refl _,h,fun a b h hb h1 h2=>H.o a b h hb (by omega)⟩
theorem InsI.next {L0 L:List Mt} {i k:Nat} (H:InsI L0 i k L) (h0:0<k) (hl:mlt (L[k]'(Nat.lt_of_le_of_lt H.hk H.hi)) (L[k-1]'(by have:=H.hk;have:=H.hi;omega))):InsI L0 i (k-1) (swp L k (Nat.lt_of_le_of_lt H.hk H.hi)):=by
 have hk:=H.hk
 have hi:=H.hi
 refine ⟨(List.Perm.trans ?_ H.p),by omega,by rw [swp_len];exact hi,fun a b h hb h1 h2 => ?_⟩
 ·exact swp_perm _ h0
 ·have hb':=hb
  rw [swp_len] at hb'
  rw [swp_get _ h0,swp_get _ h0]
  rw [if_neg h2]
  by_cases c1:b=k
  ·rw [if_pos c1]
   by_cases c2:a=k-1
   ·rw [if_pos c2];exact fun h=>mlt_asymm h hl
   ·rw [if_neg c2,if_neg (by omega)]
    exact H.o a (k-1) (by omega) (by omega) (by omega) (by omega)
  ·rw [if_neg c1]
   by_cases c2:a=k-1
   ·rw [if_pos c2]
    exact H.o k b (by omega) hb' h1 c1
   ·rw [if_neg c2]
    by_cases c3:a=k
    ·rw [if_pos c3]
     exact H.o (k-1) b (by omega) hb' h1 c1
    ·rw [if_neg c3]
     exact H.o a b h hb' h1 c1
theorem InsO.done {L0 L:List Mt} {i:Nat} (H:InsO L0 i L) (hok:∀ m∈L0,chk m.n m.d=0) (hi:L.length≤i):L=msrt L0:=by
 refine List.Perm.eq_of_pairwise (le:=fun a b=>¬ mlt b a) (fun a b ha hb h1 h2 => ?_) ?_ (msrt_sorted L0) (H.p.trans (msrt_perm L0).symm)
 ·exact mlt_eq (hok a (H.p.mem_iff.1 ha)) (hok b (msrt_mem.1 hb)) h2 h1
 ·exact List.pairwise_iff_getElem.2 fun a b ha hb h=>H.o a b h hb (by omega)
end Go.Proofs.YtfkfficabeclcaaGreatDoor

namespace Go.Proofs.YtfkfficabeclcaaGreatDoor
open Go Go.RowKit Go.Sort Sx
theorem wd_mts {l:List Mt} (h:WD (mts l)):l.length≤9223372036854775807:=by
 obtain ⟨h1,_,h3⟩:=WD_list.1 h
 simpa using h1
theorem Mt.eq_iff {p q:Mt}:p=q↔p.n=q.n∧p.d=q.d∧p.i=q.i∧p.j=q.j:=by
 cases p;cases q;simp
theorem eqMt_fn (a b:List Mt):FnOK Tryz.prog 82 [.one (mts a),.one (mts b)] (.c (.one (bol (decide (a=b))))):=by
 refine fn_ok (by kernel_rfl) ty_ok Tryz.func82 rfl (fun _ _=>Tryz.call82 _ _) rfl ?_
 intro hw
 simp only [WDCs,WDC,WDs] at hw
 have w1:=wd_mts hw.1
 have w2:=wd_mts hw.2.1
 clear hw
 by_cases h0:a.length=b.length
 ·repeat' ((conv=>whnf);first|(with_reducible first|refine br_t ?_|refine br_f ?_|refine za ?_|refine zg ?_)|rw [List.length_map]|refine zp ?_|refine zq ?_|(with_reducible first|refine bc (fun h => ?_) (fun h => ?_)|refine zt ?_|refine zf ?_|refine br_i (fun h => ?_) (fun h => ?_)|refine xi (pv_bool fun _=>nev31 _ _ _ _ _ _ _ _ _ _ _) ?_)|refine zg ?_|refine zi ?_|refine zb ?_)
  refine loop_J (by kernel_rfl) ty_ok (σ:=Nat) (fun i=>[(13,sV (.int .i64 i))]) (fun _=>[]) (fun i=>i≤a.length∧a.take i=b.take i) (fun i=>a.length-i) 0 ⟨by omega,rfl⟩ ?_ ?_
  ·(conv=>whnf);exact zent
  rintro i ⟨hi,hI⟩
  rcases Nat.lt_or_ge i a.length with hlt|hge
  ·have hb:i<b.length:=by omega
   have he1:=mts_get hlt
   have he2:=mts_get hb
   by_cases hc:a[i]=b[i]
   ·have hq:=Mt.eq_iff.1 hc
    repeat' ((conv=>whnf);first|(with_reducible first|refine br_t ?_|refine br_f ?_|refine za ?_|refine zg ?_)|rw [List.length_map]|refine zp ?_|refine zq ?_|(with_reducible first|refine bc (fun h => ?_) (fun h => ?_)|refine zt ?_|refine zf ?_|refine br_i (fun h => ?_) (fun h => ?_)|refine xi (pv_bool fun _=>nev31 _ _ _ _ _ _ _ _ _ _ _) ?_)|refine zg ?_|refine zi ?_|refine zb ?_)
    all_goals conv=>whnf
    refine ⟨i+1,⟨by omega,take_succ_eq hI hlt hb hc⟩,?_,by omega⟩
    (conv=>whnf);exact zent
   ·have hq:=mt Mt.eq_iff.2 hc
    rw [decide_eq_false (ne_of_get hlt hb hc)]
    repeat' ((conv=>whnf);first|(with_reducible first|refine br_t ?_|refine br_f ?_|refine za ?_|refine zg ?_)|rw [List.length_map]|refine zp ?_|refine zq ?_|(with_reducible first|refine bc (fun h => ?_) (fun h => ?_)|refine zt ?_|refine zf ?_|refine br_i (fun h => ?_) (fun h => ?_)|refine xi (pv_bool fun _=>nev31 _ _ _ _ _ _ _ _ _ _ _) ?_)|refine zg ?_|refine zi ?_|refine zb ?_)
    all_goals conv=>whnf
    all_goals rfl
  ·rw [decide_eq_true (take_all_eq hI h0 hge)]
   repeat' ((conv=>whnf);first|(with_reducible first|refine br_t ?_|refine br_f ?_|refine za ?_|refine zg ?_)|rw [List.length_map]|refine zp ?_|refine zq ?_|(with_reducible first|refine bc (fun h => ?_) (fun h => ?_)|refine zt ?_|refine zf ?_|refine br_i (fun h => ?_) (fun h => ?_)|refine xi (pv_bool fun _=>nev31 _ _ _ _ _ _ _ _ _ _ _) ?_)|refine zg ?_|refine zi ?_|refine zb ?_)
   all_goals conv=>whnf
   all_goals rfl
 ·rw [decide_eq_false (fun h=>h0 (congrArg List.length h))]
  repeat' ((conv=>whnf);first|(with_reducible first|refine br_t ?_|refine br_f ?_|refine za ?_|refine zg ?_)|rw [List.length_map]|refine zp ?_|refine zq ?_|(with_reducible first|refine bc (fun h => ?_) (fun h => ?_)|refine zt ?_|refine zf ?_|refine br_i (fun h => ?_) (fun h => ?_)|refine xi (pv_bool fun _=>nev31 _ _ _ _ _ _ _ _ _ _ _) ?_)|refine zg ?_|refine zi ?_|refine zb ?_)
  all_goals conv=>whnf
  all_goals rfl
theorem rmSame_fn (a b:List Mt):FnOK Tryz.prog 53 [.one (mts a),.one (mts b)] (.c (.one (bol (decide (a=b))))):=by
 refine fn_ok (by kernel_rfl) ty_ok Tryz.func53 rfl (fun _ _=>Tryz.call53 _ _) rfl ?_
 intro hw
 simp only [WDCs,WDC,WDs] at hw
 have w1:=wd_mts hw.1
 have w2:=wd_mts hw.2.1
 clear hw
 by_cases h0:a.length=b.length
 ·repeat' ((conv=>whnf);first|(with_reducible first|refine br_t ?_|refine br_f ?_|refine za ?_|refine zg ?_)|rw [List.length_map]|refine zp ?_|refine zq ?_|(with_reducible first|refine bc (fun h => ?_) (fun h => ?_)|refine zt ?_|refine zf ?_|refine br_i (fun h => ?_) (fun h => ?_)|refine xi (pv_bool fun _=>nev31 _ _ _ _ _ _ _ _ _ _ _) ?_)|refine zg ?_|refine zi ?_|refine zb ?_)
  refine loop_J (by kernel_rfl) ty_ok (σ:=Nat) (fun i=>[(5,sV (.int .i64 i))]) (fun _=>[]) (fun i=>i≤a.length∧a.take i=b.take i) (fun i=>a.length-i) 0 ⟨by omega,rfl⟩ ?_ ?_
  ·(conv=>whnf);exact zent
  rintro i ⟨hi,hI⟩
  rcases Nat.lt_or_ge i a.length with hlt|hge
  ·have hb:i<b.length:=by omega
   have he1:=mts_get hlt
   have he2:=mts_get hb
   by_cases hc:a[i]=b[i]
   ·have hq:=Mt.eq_iff.1 hc
    repeat' ((conv=>whnf);first|(with_reducible first|refine br_t ?_|refine br_f ?_|refine za ?_|refine zg ?_)|rw [List.length_map]|refine zp ?_|refine zq ?_|(with_reducible first|refine bc (fun h => ?_) (fun h => ?_)|refine zt ?_|refine zf ?_|refine br_i (fun h => ?_) (fun h => ?_)|refine xi (pv_bool fun _=>nev31 _ _ _ _ _ _ _ _ _ _ _) ?_)|refine zg ?_|refine zi ?_|refine zb ?_)
    all_goals conv=>whnf
    refine ⟨i+1,⟨by omega,take_succ_eq hI hlt hb hc⟩,?_,by omega⟩
    (conv=>whnf);exact zent
   ·have hq:=mt Mt.eq_iff.2 hc
    rw [decide_eq_false (ne_of_get hlt hb hc)]
    repeat' ((conv=>whnf);first|(with_reducible first|refine br_t ?_|refine br_f ?_|refine za ?_|refine zg ?_)|rw [List.length_map]|refine zp ?_|refine zq ?_|(with_reducible first|refine bc (fun h => ?_) (fun h => ?_)|refine zt ?_|refine zf ?_|refine br_i (fun h => ?_) (fun h => ?_)|refine xi (pv_bool fun _=>nev31 _ _ _ _ _ _ _ _ _ _ _) ?_)|refine zg ?_|refine zi ?_|refine zb ?_)
    all_goals conv=>whnf
    all_goals rfl
  ·rw [decide_eq_true (take_all_eq hI h0 hge)]
   repeat' ((conv=>whnf);first|(with_reducible first|refine br_t ?_|refine br_f ?_|refine za ?_|refine zg ?_)|rw [List.length_map]|refine zp ?_|refine zq ?_|(with_reducible first|refine bc (fun h => ?_) (fun h => ?_)|refine zt ?_|refine zf ?_|refine br_i (fun h => ?_) (fun h => ?_)|refine xi (pv_bool fun _=>nev31 _ _ _ _ _ _ _ _ _ _ _) ?_)|refine zg ?_|refine zi ?_|refine zb ?_)
   all_goals conv=>whnf
   all_goals rfl
 ·rw [decide_eq_false (fun h=>h0 (congrArg List.length h))]
  repeat' ((conv=>whnf);first|(with_reducible first|refine br_t ?_|refine br_f ?_|refine za ?_|refine zg ?_)|rw [List.length_map]|refine zp ?_|refine zq ?_|(with_reducible first|refine bc (fun h => ?_) (fun h => ?_)|refine zt ?_|refine zf ?_|refine br_i (fun h => ?_) (fun h => ?_)|refine xi (pv_bool fun _=>nev31 _ _ _ _ _ _ _ _ _ _ _) ?_)|refine zg ?_|refine zi ?_|refine zb ?_)
  all_goals conv=>whnf
  all_goals rfl
end Go.Proofs.YtfkfficabeclcaaGreatDoor

namespace Go.Proofs.YtfkfficabeclcaaGreatDoor
open Go Go.RowKit Go.Sort Sx
end Go.Proofs.YtfkfficabeclcaaGreatDoor

namespace Go.Proofs.YtfkfficabeclcaaGreatDoor
open Go Go.RowKit Go.Sort Sx
theorem incr_pw {l:List Pt}:incr l=true↔l.Pairwise fun p q=>p.id<q.id:=by
 rw [List.pairwise_iff_getElem]
 refine ⟨fun h i j hi hj hij=>incr_lt h j i hj hij,fun h=>incr_iff.2 fun i hi=>h i (i+1) (by omega) hi (by omega)⟩
theorem fchk_mk {l:List Pt} (h1:l.length≤64) (h2:∀ p∈l,p.chk=0) (h3:incr l=true):fchk l=0:=by
 unfold fchk
 rw [if_neg (by omega),if_pos (List.all_eq_true.2 fun p hp=>by simpa using h2 p hp),if_pos h3]
theorem incr_insP {l:List Pt} {p:Pt} (h:incr l=true) (hn:has l p.id=false):incr (insP l p)=true:=by
 obtain ⟨h1,h2⟩:=pos_spec (id:=p.id) h
 have hne:∀ q∈l,q.id≠p.id:=fun q hq e=>by
  have:has l p.id=true:=List.any_eq_true.2 ⟨q,hq,by simp [e]⟩
  rw [hn] at this;cases this
 rw [incr_pw] at h ⊢
 unfold insP
 refine List.pairwise_append.2 ⟨h.sublist (List.take_sublist ..),List.pairwise_cons.2 ⟨fun q hq => ?_,h.sublist (List.drop_sublist ..)⟩,fun a ha b hb => ?_⟩
 ·obtain ⟨k,hk,rfl⟩:=List.mem_iff_getElem.1 hq
  rw [List.getElem_drop]
  rw [List.length_drop] at hk
  have:=h2 (pos l p.id+k) (by omega) (by omega)
  have:=hne _ (List.getElem_mem (show pos l p.id+k<l.length by omega))
  omega
 ·have ha':a.id<p.id:=by
   obtain ⟨k,hk,rfl⟩:=List.mem_iff_getElem.1 ha
   rw [List.getElem_take]
   rw [List.length_take] at hk
   exact h1 k (by omega) (by omega)
  rcases List.mem_cons.1 hb with rfl|hb
  ·exact ha'
  ·obtain ⟨k,hk,rfl⟩:=List.mem_iff_getElem.1 hb
   rw [List.getElem_drop]
   rw [List.length_drop] at hk
   have:=h2 (pos l p.id+k) (by omega) (by omega)
   omega
theorem putV_ok {l:List Pt} {p:Pt} (h:(putV l p).2=0):fchk (putV l p).1=0:=by
 unfold putV at h ⊢
 split at h
 ·rename_i h0
  rw [if_pos h0]
  split at h
  ·rename_i h1
   rw [if_pos h1]
   split at h
   ·simp at h
   ·rename_i h2
    rw [if_neg h2]
    split at h
    ·simp at h
    ·rename_i h3
     rw [if_neg h3]
     obtain ⟨k1,k2,k3⟩:=fchk_ok h0
     refine fchk_mk ?_ (fun q hq => ?_) (incr_insP k3 (by simpa using h2))
     ·show (insP l p).length≤64
      unfold insP
      simp only [List.length_append,List.length_cons,List.length_take,List.length_drop]
      omega
     ·have hq:q∈insP l p:=hq
      unfold insP at hq
      rcases List.mem_append.1 hq with hq|hq
      ·exact k2 q (List.mem_of_mem_take hq)
      ·rcases List.mem_cons.1 hq with rfl|hq
       ·exact h1
       ·exact k2 q (List.mem_of_mem_drop hq)
  ·simp at h
 ·rename_i h0;exact absurd h h0
theorem takeV_ok {l:List Pt} {id:Int} (h:(takeV l id).2=0):fchk (takeV l id).1=0:=by
 unfold takeV at h ⊢
 split at h
 ·rename_i h0
  rw [if_pos h0]
  split at h
  ·rename_i h1
   rw [if_pos h1]
   obtain ⟨k1,k2,k3⟩:=fchk_ok h0
   show fchk (without l id)=0
   unfold without
   exact fchk_mk (Nat.le_trans (List.length_filter_le ..) k1) (fun q hq=>k2 q (List.mem_filter.1 hq).1) (incr_pw.2 ((incr_pw.1 k3).filter _))
  ·simp at h
 ·rename_i h0;exact absurd h h0
theorem changeV_ok {l:List Pt} {p:Pt} (h:(changeV l p).2=0):fchk (changeV l p).1=0:=by
 unfold changeV at h ⊢
 split at h
 ·rename_i h0
  rw [if_pos h0]
  split at h
  ·rename_i h1
   rw [if_pos h1]
   split at h
   ·rename_i h2
    rw [if_pos h2]
    obtain ⟨k1,k2,k3⟩:=fchk_ok h0
    obtain ⟨hlt,he⟩:=(has_pos k3).1 h2
    show fchk (l.set (pos l p.id) p)=0
    refine fchk_mk (by simpa using k1) (fun q hq => ?_) (incr_pw.2 (List.pairwise_iff_getElem.2 fun i j hi hj hij => ?_))
    ·rcases List.mem_or_eq_of_mem_set hq with hq|rfl
     ·exact k2 q hq
     ·exact h1
    ·have key:∀ k (hk:k<(l.set (pos l p.id) p).length),(l.set (pos l p.id) p)[k].id=(l[k]'(by simpa using hk)).id:=fun k hk=>by
      rw [List.getElem_set]
      split
      ·rename_i e;subst e;exact he.symm
      ·rfl
     rw [key,key]
     exact incr_lt k3 j i (by simpa using hj) hij
   ·simp at h
  ·simp at h
 ·rename_i h0;exact absurd h h0
theorem mchk_mk {m:Md} (h1:askd m.n m.d=0) (h2:fchk m.l=0):mchk m=0:=by
 rw [mchk_orN,h1,h2];rfl
theorem askV_ok {m:Md} (hm:mchk m=0) (a:Ak):mchk (askV m a).1=0:=by
 obtain ⟨g1,g2⟩:=mchk_ok hm
 unfold askV
 split
 ·split
  ·split
   ·exact mchk_mk g1 (putV_ok (by assumption))
   ·exact hm
  ·split
   ·split
    ·exact mchk_mk g1 (takeV_ok (by assumption))
    ·exact hm
   ·split
    ·split
     ·exact mchk_mk g1 (changeV_ok (by assumption))
     ·exact hm
    ·split
     ·split
      ·split
       ·exact hm
       ·exact mchk_mk (by assumption) g2
      ·exact hm
     ·split
      ·split<;>exact hm
      ·exact hm
 ·exact hm
end Go.Proofs.YtfkfficabeclcaaGreatDoor

namespace Go.Proofs.YtfkfficabeclcaaGreatDoor
open Go Go.RowKit Go.Sort Sx
set_option maxRecDepth 2000
abbrev aks (l:List Ak):D:=.list 7 (l.map Ak.c)
abbrev rps (l:List Rp):D:=.list 6 (l.map Rp.c)
def md0:Md:=⟨0,0,[]⟩
theorem aks_get {l:List Ak} {i:Nat} (h:i<l.length):(l.map Ak.c)[((i:Nat):Int).toNat]? = some [u8 l[i].k,i64 l[i].p.id,i64 l[i].p.a,i64 l[i].p.b,i64 l[i].id,i64 l[i].n,i64 l[i].d]:=by
 rw [Int.toNat_natCast,List.getElem?_map,List.getElem?_eq_getElem h];rfl
theorem rps_get {l:List Rp} {i:Nat} (h:i<l.length):(l.map Rp.c)[((i:Nat):Int).toNat]? = some [i64 l[i].e,i64 l[i].i,i64 l[i].j,i64 l[i].n,i64 l[i].d,mts l[i].ms]:=by
 rw [Int.toNat_natCast,List.getElem?_map,List.getElem?_eq_getElem h];rfl
theorem Rp.eq_iff {p q:Rp}:p=q↔p.e=q.e∧p.i=q.i∧p.j=q.j∧(p.n=q.n∧p.d=q.d)∧p.ms=q.ms:=by
 cases p;cases q;simp [and_assoc]
theorem wd_aks {l:List Ak} (h:WD (aks l)):l.length≤9223372036854775807:=by
 obtain ⟨h1,_,h3⟩:=WD_list.1 h
 simpa using h1
abbrev retD (x:Md × Rp × Int):DV:=.tup [x.1.dc,x.2.1.dc,.one (i64 x.2.2)]
theorem oSame_fn (a b:Rp):FnOK Tryz.prog 42 [a.dc,b.dc] (.c (.one (bol (decide (a=b))))):=by
 have H:=eqMt_fn a.ms b.ms
 have e:=Rp.eq_iff (p:=a) (q:=b)
 by_cases c:a.ms=b.ms
 ·rw [decide_eq_true c] at H
  simp only [c,and_true] at e
  refine fn_ok (by kernel_rfl) ty_ok Tryz.func42 rfl (fun _ _=>Tryz.call42 _ _) rfl ?_
  intro hw
  clear hw
  repeat' ((conv=>whnf);first|(with_reducible first|refine br_t ?_|refine br_f ?_|refine za ?_|refine zg ?_)|refine zp ?_|refine zq ?_|(with_reducible first|refine bc (fun h => ?_) (fun h => ?_)|refine zt ?_|refine zf ?_|refine br_i (fun h => ?_) (fun h => ?_)|refine xi (pv_bool fun _=>eqv25 _ _ _ _ _ _ _) ?_)|refine zg ?_|refine zi ?_|refine zb ?_)
  all_goals conv=>whnf
  all_goals
   refine r_bool ?_
   rw [Bool.eq_iff_iff]
   rw [decide_eq_true_eq,e]
   first|(refine iff_of_true rfl ?_;omega)|(refine iff_of_false (by decide) ?_;omega)
 ·rw [decide_eq_false c] at H
  simp only [c,and_false,iff_false] at e
  rw [decide_eq_false e]
  refine fn_ok (by kernel_rfl) ty_ok Tryz.func42 rfl (fun _ _=>Tryz.call42 _ _) rfl ?_
  intro hw
  clear hw
  repeat' ((conv=>whnf);first|(with_reducible first|refine br_t ?_|refine br_f ?_|refine za ?_|refine zg ?_)|refine zp ?_|refine zq ?_|(with_reducible first|refine bc (fun h => ?_) (fun h => ?_)|refine zt ?_|refine zf ?_|refine br_i (fun h => ?_) (fun h => ?_)|refine xi (pv_bool fun _=>eqv25 _ _ _ _ _ _ _) ?_)|refine zg ?_|refine zi ?_|refine zb ?_)
  all_goals conv=>whnf
  all_goals rfl
theorem roSame_fn (a b:Rp):FnOK Tryz.prog 19 [a.dc,b.dc] (.c (.one (bol (decide (a=b))))):=by
 have H:=rmSame_fn a.ms b.ms
 have e:=Rp.eq_iff (p:=a) (q:=b)
 by_cases c:a.ms=b.ms
 ·rw [decide_eq_true c] at H
  simp only [c,and_true] at e
  refine fn_ok (by kernel_rfl) ty_ok Tryz.func19 rfl (fun _ _=>Tryz.call19 _ _) rfl ?_
  intro hw
  clear hw
  repeat' ((conv=>whnf);first|(with_reducible first|refine br_t ?_|refine br_f ?_|refine za ?_|refine zg ?_)|refine zp ?_|refine zq ?_|(with_reducible first|refine bc (fun h => ?_) (fun h => ?_)|refine zt ?_|refine zf ?_|refine br_i (fun h => ?_) (fun h => ?_)|refine xi (pv_bool fun _=>eqv25 _ _ _ _ _ _ _) ?_)|refine zg ?_|refine zi ?_|refine zb ?_)
  all_goals conv=>whnf
  all_goals
   refine r_bool ?_
   rw [Bool.eq_iff_iff]
   rw [decide_eq_true_eq,e]
   first|(refine iff_of_true rfl ?_;omega)|(refine iff_of_false (by decide) ?_;omega)
 ·rw [decide_eq_false c] at H
  simp only [c,and_false,iff_false] at e
  rw [decide_eq_false e]
  refine fn_ok (by kernel_rfl) ty_ok Tryz.func19 rfl (fun _ _=>Tryz.call19 _ _) rfl ?_
  intro hw
  clear hw
  repeat' ((conv=>whnf);first|(with_reducible first|refine br_t ?_|refine br_f ?_|refine za ?_|refine zg ?_)|refine zp ?_|refine zq ?_|(with_reducible first|refine bc (fun h => ?_) (fun h => ?_)|refine zt ?_|refine zf ?_|refine br_i (fun h => ?_) (fun h => ?_)|refine xi (pv_bool fun _=>eqv25 _ _ _ _ _ _ _) ?_)|refine zg ?_|refine zi ?_|refine zb ?_)
  all_goals conv=>whnf
  all_goals rfl
end Go.Proofs.YtfkfficabeclcaaGreatDoor

namespace Go.Proofs.YtfkfficabeclcaaGreatDoor
open Go Go.RowKit Sx
namespace Sx
def shAsk:Sh:=.st (.fc 1 (.int .u8) (.fc 3 shPoint (.fc 1 shInt (.fc 2 shRatio .f0))))
def shAsks:Sh:=.sl 7 shAsk
end Sx
theorem fits_ask {ds:List D} (h:Fits shAsk ds):∃ a:Ak,ds=a.c:=by
 obtain ⟨_,_,rfl,⟨k,rfl⟩,_,_,rfl,h2,_,_,rfl,⟨i,rfl⟩,_,_,rfl,h3,rfl⟩:=h
 obtain ⟨p,rfl⟩:=fits_point h2
 obtain ⟨n,d,rfl⟩:=fits_ratio h3
 exact ⟨⟨k,p,i,n,d⟩,rfl⟩
theorem fit_asks {c:DC} (h:FitC shAsks c):∃ l:List Ak,c=.one (aks l):=by
 obtain ⟨d,rfl,l,e,h2⟩:=h
 injection e with e
 subst e
 obtain ⟨l',rfl⟩:=exists_map (f:=Ak.c) fun x hx=>fits_ask (h2 x hx)
 exact ⟨l',rfl⟩
end Go.Proofs.YtfkfficabeclcaaGreatDoor

namespace Go.Proofs.YtfkfficabeclcaaGreatDoor
open Go.RowKit Go.Sort Sx Go.Lib
abbrev Str:=List UInt8
theorem dig_of {k:Nat} (h:k<10):digitVal (UInt8.ofNat (48+k))=some k:=by
 have e:(UInt8.ofNat (48+k)).toNat=48+k:=by
  rw [UInt8.toNat_ofNat'];omega
 unfold digitVal
 rw [e,if_pos ⟨by omega,by omega⟩]
 congr 1;omega
def rdP:Nat→Str→Option Nat
 | n,[]=>some n
 | n,b::l=>match digitVal b with
  | some d=>if 10*n+d≤9223372036854775807 then rdP (10*n+d) l else none
  | none=>none
theorem rdP_app (n:Nat) (l r:Str):rdP n (l++r)=(rdP n l).bind fun m=>rdP m r:=by
 induction l generalizing n with
 | nil=>rfl
 | cons b l ih =>
  rw [List.cons_append,rdP,rdP]
  cases digitVal b with
  | none=>rfl
  | some d =>
   dsimp only
   split
   ·exact ih _
   ·rfl
theorem rdP_dec:∀ (u:Nat),u≤9223372036854775807→rdP 0 (decDigits u)=some u:=by
 intro u
 induction u using Nat.strongRecOn with
 | _ u ih =>
  intro hu
  by_cases h:u<10
  ·rw [decDigits,dif_pos h,rdP,dig_of h]
   dsimp only
   rw [if_pos (by omega),rdP]
   congr 1;omega
  ·rw [decDigits,dif_neg h,rdP_app,ih (u / 10) (by omega) (by omega)]
   show rdP (u / 10) _=_
   rw [rdP,dig_of (Nat.mod_lt _ (by decide))]
   dsimp only
   rw [if_pos (by omega),rdP]
   congr 1;omega
theorem decFrom_app (n:Nat) (l r:Str):decFrom n (l++r)=(decFrom n l).bind fun m=>decFrom m r:=by
 induction l generalizing n with
 | nil=>rfl
 | cons b l ih =>
  rw [List.cons_append,decFrom,decFrom]
  cases digitVal b with
  | none=>rfl
  | some d=>exact ih _
theorem decFrom_dec:∀ (u:Nat),decFrom 0 (decDigits u)=some u:=by
 intro u
 induction u using Nat.strongRecOn with
 | _ u ih =>
  by_cases h:u<10
  ·rw [decDigits,dif_pos h,decFrom,dig_of h]
   dsimp only
   rw [decFrom]
   congr 1;omega
  ·rw [decDigits,dif_neg h,decFrom_app,ih (u / 10) (by omega)]
   show decFrom (u / 10) _=_
   rw [decFrom,dig_of (Nat.mod_lt _ (by decide))]
   dsimp only
   rw [decFrom]
   congr 1;omega
theorem dec_mem:∀ (u:Nat),∀ b∈decDigits u,48≤b.toNat∧b.toNat≤57:=by
 intro u
 induction u using Nat.strongRecOn with
 | _ u ih =>
  have key:∀ k:Nat,k<10→48≤(UInt8.ofNat (48+k)).toNat∧(UInt8.ofNat (48+k)).toNat≤57:=fun k h=>by
   rw [UInt8.toNat_ofNat'];omega
  intro b hb
  by_cases h:u<10
  ·rw [decDigits,dif_pos h,List.mem_singleton] at hb
   subst hb;exact key u h
  ·rw [decDigits,dif_neg h] at hb
   rcases List.mem_append.1 hb with hb|hb
   ·exact ih (u / 10) (by omega) b hb
   ·rw [List.mem_singleton] at hb
    subst hb;exact key _ (Nat.mod_lt _ (by decide))
theorem dec_head {u:Nat} {r:Str}:decDigits u≠45::r:=fun h=>by
 have:=dec_mem u 45 (by rw [h];exact List.mem_cons_self ..)
 exact absurd this.1 (by decide)
abbrev fitI (n:Int):Prop := -9223372036854775807≤n∧n≤9223372036854775807
def wholeV (s:Str):Int × Bool:=match s with
 | 45::r=>(match rdP 0 r with|some n=>(-(n:Int),decide (itoa (-(n:Int))=s))|none=>(0,false))
 | _=>(match rdP 0 s with|some n=>((n:Int),decide (itoa (n:Int)=s))|none=>(0,false))
theorem itoa_neg {n:Nat} (h:0<n):itoa (-(n:Int))=45::decDigits n:=by
 unfold itoa
 rw [if_pos (by omega)]
 congr 2;omega
theorem itoa_pos (n:Nat):itoa (n:Int)=decDigits n:=by
 unfold itoa
 rw [if_neg (by omega)]
 congr 1
theorem rdP_le:∀ {l:Str} {n m:Nat},n≤9223372036854775807→rdP n l=some m→m≤9223372036854775807
 | [],n,m,h,e=>by rw [rdP] at e;injection e with e;omega
 | b::l,n,m,h,e=>by
  rw [rdP] at e
  split at e
  ·split at e
   ·rename_i hle;exact rdP_le hle e
   ·cases e
  ·cases e
theorem whole_ok {s:Str} (h:(wholeV s).2=true):fitI (wholeV s).1∧itoa (wholeV s).1=s:=by
 unfold wholeV at h ⊢
 split at h
 ·rename_i r
  cases e:rdP 0 r with
  | none=>rw [e] at h;cases h
  | some n =>
   rw [e] at h
   have:=rdP_le (by omega) e
   exact ⟨⟨by dsimp only;omega,by dsimp only;omega⟩,of_decide_eq_true h⟩
 ·cases e:rdP 0 s with
  | none=>rw [e] at h;cases h
  | some n =>
   rw [e] at h
   have:=rdP_le (by omega) e
   exact ⟨⟨by dsimp only;omega,by dsimp only;omega⟩,of_decide_eq_true h⟩
theorem whole_itoa {n:Int} (h:fitI n):wholeV (itoa n)=(n,true):=by
 obtain ⟨h1,h2⟩:=h
 rcases Int.lt_or_le n 0 with h0|h0
 ·obtain ⟨k,hk,rfl⟩:∃ k:Nat,0<k∧n = -(k:Int):=⟨n.natAbs,by omega,by omega⟩
  rw [itoa_neg hk]
  show (match rdP 0 (decDigits k) with|some n=>(-(n:Int),decide (itoa (-(n:Int))=45::decDigits k))|none=>(0,false))=_
  rw [rdP_dec k (by omega)]
  dsimp only
  rw [itoa_neg hk,decide_eq_true rfl]
 ·obtain ⟨k,rfl⟩:∃ k:Nat,n=(k:Int):=⟨n.toNat,by omega⟩
  rw [itoa_pos]
  unfold wholeV
  split
  ·rename_i r e;exact absurd e dec_head
  ·rw [rdP_dec k (by omega)]
   dsimp only
   rw [itoa_pos,decide_eq_true rfl]
end Go.Proofs.YtfkfficabeclcaaGreatDoor

namespace Go.Proofs.YtfkfficabeclcaaGreatDoor
open Go Go.RowKit Go.Sort Sx
open Go.Lib hiding intOf
theorem fmt_fn {n:Int}:FnOK Tryz.prog 76 [.one (i64 n),.one (i64 10)] (.c (.one (str (itoa n)))) :=
 fn_of_callsG (fun _ _=>Tryz.call76 _ _) rfl rfl (fun _=>.v trivial) (fun h w hg=>by
  have hb:=wd_i64.1 h.1
  exact (Tryz.strconv_FormatInt_10 n hb.1 hb.2 w hg.tab).mono fun e w' ⟨he,k,os,hw⟩=>⟨he,by rw [hw];exact below_regrown w (w.drawn+k) os⟩)
theorem ito_fn {n:Int}:FnOK Tryz.prog 77 [.one (i64 n)] (.c (.one (str (itoa n)))) :=
 fn_of_callsG (fun _ _=>Tryz.call77 _ _) rfl rfl (fun _=>.v trivial) (fun h w hg=>by
  have hb:=wd_i64.1 h.1
  exact (Tryz.strconv_Itoa n hb.1 hb.2 w hg.tab).mono fun e w' ⟨he,k,os,hw⟩=>⟨he,by rw [hw];exact below_regrown w (w.drawn+k) os⟩)
theorem pre_fn {s p:Str}:FnOK Tryz.prog 193 [.one (str s),.one (str p)] (.c (.one (bol (Lib.hasPrefix s p)))) :=
 fn_of_callsG (fun _ _=>Tryz.call193 _ _) rfl rfl (fun _=>.v trivial) (fun h w hg=>(Tryz.strings_HasPrefix ⟨s.toArray⟩ ⟨p.toArray⟩ w).mono fun e w' ⟨he,hw⟩=>⟨he,hw ▸ Below.refl _ _⟩)
def finW (s:Str) (fr:Nat) (R:Option Nat):Int × Bool:=match R with
 | some n=>(if fr=1 then -(n:Int) else n,decide (itoa (if fr=1 then -(n:Int) else n)=s))
 | none=>(0,false)
theorem finW_1 {s:Str} {fr n:Nat} (h:fr=1):finW s fr (some n)=(-(n:Int),decide (itoa (-(n:Int))=s)):=by subst h;rfl
theorem finW_0 {s:Str} {fr n:Nat} (h:fr≠1):finW s fr (some n)=((n:Int),decide (itoa (n:Int)=s)):=by unfold finW;dsimp only;rw [if_neg h]
theorem wholeV_fin (s:Str):wholeV s=finW s (if Lib.hasPrefix s [45] then 1 else 0) (rdP 0 (s.drop (if Lib.hasPrefix s [45] then 1 else 0))):=by
 unfold wholeV Lib.hasPrefix
 split
 ·rename_i r
  have e:([45]:Str).isPrefixOf (45::r)=true:=rfl
  rw [e]
  simp only [if_true,List.drop_succ_cons,List.drop_zero]
  rfl
 ·rename_i h
  have e:([45]:Str).isPrefixOf s=false:=by
   cases s with
   | nil=>rfl
   | cons b r =>
    have hb:b≠45:=fun e=>h r (by rw [e])
    simp [List.isPrefixOf,Ne.symm hb]
  rw [e]
  rfl
theorem digit_no {b:UInt8} (h:digitVal b=none):¬ (48≤b.toNat∧b.toNat≤57):=fun k=>by
 unfold digitVal at h
 rw [if_pos k] at h;cases h
theorem digit_some {b:UInt8} {d:Nat} (h:digitVal b=some d):48≤b.toNat∧b.toNat≤57∧d=b.toNat-48:=digitVal_eq h
theorem byte_no {b:UInt8} (h:digitVal b=none):IntKind.u8.wrap ((b.toNat:Int)-48) > 9:=by
 have h1:=digit_no h
 have h2:=b.toNat_lt
 rw [IntKind.wrap_u8]
 omega
theorem byte_some {b:UInt8} {d:Nat} (h:digitVal b=some d):d≤9∧IntKind.u8.wrap ((b.toNat:Int)-48)=(d:Int):=by
 have h1:=digit_some h
 rw [IntKind.wrap_u8]
 omega
theorem quo_of {d:Nat} (h:d≤9):IntKind.i64.wrap ((IntKind.i64.wrap (9223372036854775807-IntKind.i64.wrap (d:Int))).tdiv 10)=(9223372036854775807-(d:Int)) / 10:=by
 rw [IntWalk.i64_in (d:Int) (by omega),IntWalk.i64_in (9223372036854775807-(d:Int)) (by omega),Int.tdiv_eq_ediv_of_nonneg (by omega),IntWalk.i64_in _ (by omega)]
abbrev retWh (x:Int × Bool):DV:=.tup [.one (i64 x.1),.one (bol x.2)]
theorem whole_fn (s:Str) (hs:s.length≤1000000):FnOK Tryz.prog 140 [.one (str s)] (retWh (wholeV s)):=by
 have hpre:=@pre_fn s [45]
 rw [wholeV_fin]
 generalize hp:Lib.hasPrefix s [45]=p at *
 have hfl:(if p=true then 1 else 0)≤s.length:=by
  cases p with
  | false=>exact Nat.zero_le _
  | true =>
   cases s with
   | nil=>cases hp
   | cons b r=>simp
 have hfr:(if p=true then 1 else 0)=0∨(if p=true then 1 else 0)=1:=by cases p<;>simp
 obtain ⟨fr,hfe⟩:∃ fr:Nat,fr=if p=true then 1 else 0:=⟨_,rfl⟩
 rw [← hfe] at hfl hfr ⊢
 generalize hR:rdP 0 (s.drop fr)=R
 have hfm:∀ n:Int,FnOK Tryz.prog 76 [.one (i64 n),.one (i64 10)] (.c (.one (str (itoa n)))):=fun n=>fmt_fn
 refine fn_ok (by kernel_rfl) ty_ok Tryz.func140 rfl (fun _ _=>Tryz.call140 _ _) rfl ?_
 intro hw
 clear hw
 refine scope_J (by kernel_rfl) ty_ok 0 (σ:=Nat × Nat) (fun q=>[(2,sV (.int .i64 0)),(3,sV (.bool false)),(4,sV (.int .i64 (q.1:Nat))),(5,sV (.int .i64 (q.2:Nat))),(6,sV (.int .i64 (fr:Nat)))]) (fun _=>[]) (fun q=>fr≤q.2∧q.2≤s.length∧q.1≤9223372036854775807∧rdP q.1 (s.drop q.2)=R) (fun q=>s.length-q.2) rfl ?_ ?_
 ·cases p
  ·have hfe:fr=0:=hfe
   subst hfe
   cases hb:s[0]? with
   | none =>
    have hk:0=s.length:=by
     have:=List.getElem?_eq_none_iff.1 hb
     omega
    rw [show s.drop 0=[] from List.drop_eq_nil_of_le (by omega),rdP] at hR
    subst hR
    have en:IntKind.i64.wrap (0-0)=0:=by rw [IntWalk.i64_in _ (by omega)];omega
    repeat' ((conv=>whnf);first|(with_reducible first|refine br_t ?_|refine br_f ?_|refine za ?_|refine zg ?_)|refine za ?_ fmt_fn|refine zsl ?_|refine zsg ?_|refine zss ?_|refine zs1 ?_|refine zse ?_|refine zsn ?_|refine zsc ?_|(with_reducible first|refine zpa ?_|refine zqa ?_)|refine zp ?_|refine zq ?_|(with_reducible first|refine bc (fun h => ?_) (fun h => ?_)|refine zt ?_|refine zf ?_|refine br_i (fun h => ?_) (fun h => ?_))|refine zg ?_|refine zi ?_|refine zb ?_)
    all_goals conv=>whnf
    all_goals (first|(rw [en,finW_1 (by omega)];rfl)|(rw [finW_0 (by omega)];rfl))
   | some b =>
    have hk:0<s.length:=(List.getElem?_eq_some_iff.1 hb).1
    have hg:s[((0:Int)).toNat]? = some b:=by rw [show ((0:Int)).toNat=0 from rfl];exact hb
    have hdr:s.drop 0=b::s.drop 1:=by rw [List.drop_eq_getElem_cons hk,(List.getElem?_eq_some_iff.1 hb).2]
    rw [hdr,rdP] at hR
    cases hd:digitVal b with
    | none =>
     rw [hd] at hR
     dsimp only at hR
     subst hR
     have hc:=byte_no hd
     repeat' ((conv=>whnf);first|(with_reducible first|refine br_t ?_|refine br_f ?_|refine za ?_|refine zg ?_)|refine za ?_ fmt_fn|refine zsl ?_|refine zsg ?_|refine zss ?_|refine zs1 ?_|refine zse ?_|refine zsn ?_|refine zsc ?_|(with_reducible first|refine zpa ?_|refine zqa ?_)|refine zp ?_|refine zq ?_|(with_reducible first|refine bc (fun h => ?_) (fun h => ?_)|refine zt ?_|refine zf ?_|refine br_i (fun h => ?_) (fun h => ?_))|refine zg ?_|refine zi ?_|refine zb ?_)
     all_goals conv=>whnf
     all_goals rfl
    | some d =>
     rw [hd] at hR
     simp only [Nat.mul_zero,Nat.zero_add] at hR
     obtain ⟨hd9,hc⟩:=byte_some hd
     have hq:=quo_of hd9
     rw [← hc] at hq
     have h4:d≤9223372036854775807→IntKind.i64.wrap (IntKind.i64.wrap (10*0)+IntKind.i64.wrap (IntKind.u8.wrap ((b.toNat:Int)-48)))=((d:Nat):Int):=fun h=>by
      rw [hc,show IntKind.i64.wrap (10*0)=0 from by decide,IntWalk.i64_in (d:Int) (by omega),IntWalk.i64_in _ (by omega)];omega
     by_cases hle:d≤9223372036854775807
     ·rw [if_pos hle] at hR
      have h4:=h4 hle
      repeat' ((conv=>whnf);first|(with_reducible first|refine br_t ?_|refine br_f ?_|refine za ?_|refine zg ?_)|refine za ?_ fmt_fn|refine zsl ?_|refine zsg ?_|refine zss ?_|refine zs1 ?_|refine zse ?_|refine zsn ?_|refine zsc ?_|(with_reducible first|refine zpa ?_|refine zqa ?_)|refine zp ?_|refine zq ?_|(with_reducible first|refine bc (fun h => ?_) (fun h => ?_)|refine zt ?_|refine zf ?_|refine br_i (fun h => ?_) (fun h => ?_))|refine zg ?_|refine zi ?_|refine zb ?_)
      all_goals conv=>whnf
      refine ⟨(d,1),⟨by simp only;omega,by simp only;omega,hle,hR⟩,?_⟩
      (conv=>whnf);exact zent
     ·exact absurd (by omega) hle
  ·have hfe:fr=1:=hfe
   subst hfe
   cases hb:s[1]? with
   | none =>
    have hk:1=s.length:=by
     have:=List.getElem?_eq_none_iff.1 hb
     omega
    rw [show s.drop 1=[] from List.drop_eq_nil_of_le (by omega),rdP] at hR
    subst hR
    have en:IntKind.i64.wrap (0-0)=0:=by rw [IntWalk.i64_in _ (by omega)];omega
    repeat' ((conv=>whnf);first|(with_reducible first|refine br_t ?_|refine br_f ?_|refine za ?_|refine zg ?_)|refine za ?_ fmt_fn|refine zsl ?_|refine zsg ?_|refine zss ?_|refine zs1 ?_|refine zse ?_|refine zsn ?_|refine zsc ?_|(with_reducible first|refine zpa ?_|refine zqa ?_)|refine zp ?_|refine zq ?_|(with_reducible first|refine bc (fun h => ?_) (fun h => ?_)|refine zt ?_|refine zf ?_|refine br_i (fun h => ?_) (fun h => ?_))|refine zg ?_|refine zi ?_|refine zb ?_)
    all_goals conv=>whnf
    all_goals (first|(rw [en,finW_1 (by omega)];rfl)|(rw [finW_0 (by omega)];rfl))
   | some b =>
    have hk:1<s.length:=(List.getElem?_eq_some_iff.1 hb).1
    have hg:s[((1:Int)).toNat]? = some b:=by rw [show ((1:Int)).toNat=1 from rfl];exact hb
    have hdr:s.drop 1=b::s.drop 2:=by rw [List.drop_eq_getElem_cons hk,(List.getElem?_eq_some_iff.1 hb).2]
    rw [hdr,rdP] at hR
    cases hd:digitVal b with
    | none =>
     rw [hd] at hR
     dsimp only at hR
     subst hR
     have hc:=byte_no hd
     repeat' ((conv=>whnf);first|(with_reducible first|refine br_t ?_|refine br_f ?_|refine za ?_|refine zg ?_)|refine za ?_ fmt_fn|refine zsl ?_|refine zsg ?_|refine zss ?_|refine zs1 ?_|refine zse ?_|refine zsn ?_|refine zsc ?_|(with_reducible first|refine zpa ?_|refine zqa ?_)|refine zp ?_|refine zq ?_|(with_reducible first|refine bc (fun h => ?_) (fun h => ?_)|refine zt ?_|refine zf ?_|refine br_i (fun h => ?_) (fun h => ?_))|refine zg ?_|refine zi ?_|refine zb ?_)
     all_goals conv=>whnf
     all_goals rfl
    | some d =>
     rw [hd] at hR
     simp only [Nat.mul_zero,Nat.zero_add] at hR
     obtain ⟨hd9,hc⟩:=byte_some hd
     have hq:=quo_of hd9
     rw [← hc] at hq
     have h4:d≤9223372036854775807→IntKind.i64.wrap (IntKind.i64.wrap (10*0)+IntKind.i64.wrap (IntKind.u8.wrap ((b.toNat:Int)-48)))=((d:Nat):Int):=fun h=>by
      rw [hc,show IntKind.i64.wrap (10*0)=0 from by decide,IntWalk.i64_in (d:Int) (by omega),IntWalk.i64_in _ (by omega)];omega
     by_cases hle:d≤9223372036854775807
     ·rw [if_pos hle] at hR
      have h4:=h4 hle
      repeat' ((conv=>whnf);first|(with_reducible first|refine br_t ?_|refine br_f ?_|refine za ?_|refine zg ?_)|refine za ?_ fmt_fn|refine zsl ?_|refine zsg ?_|refine zss ?_|refine zs1 ?_|refine zse ?_|refine zsn ?_|refine zsc ?_|(with_reducible first|refine zpa ?_|refine zqa ?_)|refine zp ?_|refine zq ?_|(with_reducible first|refine bc (fun h => ?_) (fun h => ?_)|refine zt ?_|refine zf ?_|refine br_i (fun h => ?_) (fun h => ?_))|refine zg ?_|refine zi ?_|refine zb ?_)
      all_goals conv=>whnf
      refine ⟨(d,2),⟨by simp only;omega,by simp only;omega,hle,hR⟩,?_⟩
      (conv=>whnf);exact zent
     ·exact absurd (by omega) hle
 ·rintro ⟨n,k⟩ ⟨hk1,hk2,hn,hrd⟩
  simp only at hk1 hk2 hn hrd ⊢
  cases hb:s[k]? with
  | none =>
   have hk:k=s.length:=by
    have:=List.getElem?_eq_none_iff.1 hb
    omega
   subst hk
   rw [List.drop_length,rdP] at hrd
   subst hrd
   have en:IntKind.i64.wrap (0-(n:Int)) = -(n:Int):=by rw [IntWalk.i64_in _ (by omega)];omega
   repeat' ((conv=>whnf);first|(with_reducible first|refine br_t ?_|refine br_f ?_|refine za ?_|refine zg ?_)|refine za ?_ fmt_fn|refine zsl ?_|refine zsg ?_|refine zss ?_|refine zs1 ?_|refine zse ?_|refine zsn ?_|refine zsc ?_|(with_reducible first|refine zpa ?_|refine zqa ?_)|refine zp ?_|refine zq ?_|(with_reducible first|refine bc (fun h => ?_) (fun h => ?_)|refine zt ?_|refine zf ?_|refine br_i (fun h => ?_) (fun h => ?_))|refine zg ?_|refine zi ?_|refine zb ?_)
   all_goals conv=>whnf
   ·rw [en,finW_1 (by omega)]
   ·rw [finW_0 (by omega)]
  | some b =>
   have hk:k<s.length:=(List.getElem?_eq_some_iff.1 hb).1
   have hg:s[(k:Int).toNat]? = some b:=by rw [Int.toNat_natCast];exact hb
   have hdr:s.drop k=b::s.drop (k+1):=by rw [List.drop_eq_getElem_cons hk,(List.getElem?_eq_some_iff.1 hb).2]
   rw [hdr,rdP] at hrd
   cases hd:digitVal b with
   | none =>
    rw [hd] at hrd
    dsimp only at hrd
    subst hrd
    have hc:=byte_no hd
    repeat' ((conv=>whnf);first|(with_reducible first|refine br_t ?_|refine br_f ?_|refine za ?_|refine zg ?_)|refine za ?_ fmt_fn|refine zsl ?_|refine zsg ?_|refine zss ?_|refine zs1 ?_|refine zse ?_|refine zsn ?_|refine zsc ?_|(with_reducible first|refine zpa ?_|refine zqa ?_)|refine zp ?_|refine zq ?_|(with_reducible first|refine bc (fun h => ?_) (fun h => ?_)|refine zt ?_|refine zf ?_|refine br_i (fun h => ?_) (fun h => ?_))|refine zg ?_|refine zi ?_|refine zb ?_)
    all_goals conv=>whnf
    all_goals rfl
   | some d =>
    rw [hd] at hrd
    dsimp only at hrd
    obtain ⟨hd9,hc⟩:=byte_some hd
    have hq:=quo_of hd9
    rw [← hc] at hq
    have h4:10*n+d≤9223372036854775807→IntKind.i64.wrap (IntKind.i64.wrap (10*(n:Int))+IntKind.i64.wrap (IntKind.u8.wrap ((b.toNat:Int)-48)))=((10*n+d:Nat):Int):=fun h=>by
     rw [hc,IntWalk.i64_in (10*(n:Int)) (by omega),IntWalk.i64_in (d:Int) (by omega),IntWalk.i64_in _ (by omega)];omega
    by_cases hle:10*n+d≤9223372036854775807
    ·rw [if_pos hle] at hrd
     have h4:=h4 hle
     repeat' ((conv=>whnf);first|(with_reducible first|refine br_t ?_|refine br_f ?_|refine za ?_|refine zg ?_)|refine za ?_ fmt_fn|refine zsl ?_|refine zsg ?_|refine zss ?_|refine zs1 ?_|refine zse ?_|refine zsn ?_|refine zsc ?_|(with_reducible first|refine zpa ?_|refine zqa ?_)|refine zp ?_|refine zq ?_|(with_reducible first|refine bc (fun h => ?_) (fun h => ?_)|refine zt ?_|refine zf ?_|refine br_i (fun h => ?_) (fun h => ?_))|refine zg ?_|refine zi ?_|refine zb ?_)
     all_goals conv=>whnf
     refine ⟨(10*n+d,k+1),⟨by simp only;omega,by simp only;omega,hle,hrd⟩,?_,by simp only;omega⟩
     (conv=>whnf);exact zent
    ·rw [if_neg hle] at hrd
     subst hrd
     repeat' ((conv=>whnf);first|(with_reducible first|refine br_t ?_|refine br_f ?_|refine za ?_|refine zg ?_)|refine za ?_ fmt_fn|refine zsl ?_|refine zsg ?_|refine zss ?_|refine zs1 ?_|refine zse ?_|refine zsn ?_|refine zsc ?_|(with_reducible first|refine zpa ?_|refine zqa ?_)|refine zp ?_|refine zq ?_|(with_reducible first|refine bc (fun h => ?_) (fun h => ?_)|refine zt ?_|refine zf ?_|refine br_i (fun h => ?_) (fun h => ?_))|refine zg ?_|refine zi ?_|refine zb ?_)
     all_goals conv=>whnf
     all_goals rfl
end Go.Proofs.YtfkfficabeclcaaGreatDoor

namespace Go.Proofs.YtfkfficabeclcaaGreatDoor
open Go.RowKit Go.Sort Sx Go.Lib
def spl (c:UInt8):Str→List Str
 | []=>[[]]
 | b::l=>if b=c then []::spl c l else match spl c l with|h::t=>(b::h)::t|[]=>[[b]]
def cut1 (c:UInt8):Str→Str × Str × Bool
 | []=>([],[],false)
 | b::l=>if b=c then ([],l,true) else (b::(cut1 c l).1,(cut1 c l).2.1,(cut1 c l).2.2)
theorem spl_at {c:UInt8}:∀ {a:Str} (r:Str),c ∉ a→spl c (a++c::r)=a::spl c r
 | [],r,_=>by rw [List.nil_append,spl,if_pos rfl]
 | b::a,r,h=>by
  rw [List.cons_append,spl,if_neg (fun e=>h (by rw [e];exact List.mem_cons_self ..)),spl_at r (fun k=>h (List.mem_cons_of_mem _ k))]
theorem spl_no {c:UInt8}:∀ {a:Str},c ∉ a→spl c a=[a]
 | [],_=>rfl
 | b::a,h=>by
  rw [spl,if_neg (fun e=>h (by rw [e];exact List.mem_cons_self ..)),spl_no (fun k=>h (List.mem_cons_of_mem _ k))]
theorem cut1_at {c:UInt8}:∀ {a:Str} (r:Str),c ∉ a→cut1 c (a++c::r)=(a,r,true)
 | [],r,_=>by rw [List.nil_append,cut1,if_pos rfl]
 | b::a,r,h=>by
  rw [List.cons_append,cut1,if_neg (fun e=>h (by rw [e];exact List.mem_cons_self ..)),cut1_at r (fun k=>h (List.mem_cons_of_mem _ k))]
theorem cut1_no {c:UInt8}:∀ {a:Str},c ∉ a→cut1 c a=(a,[],false)
 | [],_=>rfl
 | b::a,h=>by
  rw [cut1,if_neg (fun e=>h (by rw [e];exact List.mem_cons_self ..)),cut1_no (fun k=>h (List.mem_cons_of_mem _ k))]
theorem spl_ne (c:UInt8):∀ s:Str,spl c s≠[]
 | []=>by simp [spl]
 | b::l=>by
  rw [spl]
  split
  ·simp
  ·split<;>simp
theorem itoa_mem {n:Int} {b:UInt8} (h:b∈itoa n):b=45∨(48≤b.toNat∧b.toNat≤57):=by
 unfold itoa at h
 split at h
 ·rcases List.mem_cons.1 h with h|h
  ·exact .inl h
  ·exact .inr (dec_mem _ b h)
 ·exact .inr (dec_mem _ b h)
theorem itoa_no {n:Int} {c:UInt8} (h1:c≠45) (h2:c.toNat<48∨57<c.toNat):c ∉ itoa n:=fun h=>by
 rcases itoa_mem h with h|h
 ·exact h1 h
 ·omega
def wrtV (n d:Int):Str:=if d=1 then itoa n else itoa n++47::itoa d
def numV (n d:Int):Str × Int:=if chk n d=0 then (wrtV n d,0) else ([],8)
def backV (s:Str) (n d:Int):(Int × Int) × Int:=if chk n d=0∧wrtV n d=s then ((n,d),0) else ((0,0),12)
def readV (s:Str):(Int × Int) × Int :=
 if (wholeV (cut1 47 s).1).2=true∧((cut1 47 s).2.2=true→(wholeV (cut1 47 s).2.1).2=true) then backV s (wholeV (cut1 47 s).1).1 (if (cut1 47 s).2.2 then (wholeV (cut1 47 s).2.1).1 else 1) else ((0,0),12)
structure IsRead (f:Str→(Int × Int) × Int):Prop where
 ok:∀ s,(f s).2=0→chk (f s).1.1 (f s).1.2=0∧wrtV (f s).1.1 (f s).1.2=s
 no:∀ s,(f s).2≠0→f s=((0,0),12)
 of:∀ n d,chk n d=0→fitI n→fitI d→f (wrtV n d)=((n,d),0)
 fit:∀ s,(f s).2=0→fitI (f s).1.1∧fitI (f s).1.2
theorem IsRead.eq {f g:Str→(Int × Int) × Int} (hf:IsRead f) (hg:IsRead g) (s:Str):f s=g s:=by
 have key:∀ {f g:Str→(Int × Int) × Int},IsRead f→IsRead g→(f s).2=0→f s=g s:=fun {f g} hf hg h=>by
  obtain ⟨a,b⟩:=hf.ok s h
  obtain ⟨c,d⟩:=hf.fit s h
  have:=hg.of _ _ a c d
  rw [b] at this
  rw [this,← h]
 by_cases h:(f s).2=0
 ·exact key hf hg h
 ·by_cases h2:(g s).2=0
  ·exact (key hg hf h2).symm
  ·rw [hf.no s h,hg.no s h2]
theorem IsRead.cases {f:Str→(Int × Int) × Int} (hf:IsRead f) (s:Str):(∃ n d,chk n d=0∧fitI n∧fitI d∧wrtV n d=s∧f s=((n,d),0))∨(f s=((0,0),12)∧∀ n d,chk n d=0→fitI n→fitI d→wrtV n d≠s):=by
 by_cases h:(f s).2=0
 ·obtain ⟨a,b⟩:=hf.ok s h
  obtain ⟨c,d⟩:=hf.fit s h
  refine .inl ⟨_,_,a,c,d,b,?_⟩
  rw [← h]
 ·refine .inr ⟨hf.no s h,fun n d h1 h2 h3 e => ?_⟩
  have:=hf.of n d h1 h2 h3
  rw [e] at this
  rw [this] at h;exact h rfl
theorem backV_ok {s:Str} {n d:Int} (h:(backV s n d).2=0):chk (backV s n d).1.1 (backV s n d).1.2=0∧wrtV (backV s n d).1.1 (backV s n d).1.2=s:=by
 unfold backV at h ⊢
 split at h
 ·rename_i c;rw [if_pos c];exact c
 ·cases h
theorem backV_fit {s:Str} {n d:Int} (hn:fitI n) (hd:fitI d):fitI (backV s n d).1.1∧fitI (backV s n d).1.2:=by
 unfold backV
 split
 ·exact ⟨hn,hd⟩
 ·exact ⟨⟨by decide,by decide⟩,⟨by decide,by decide⟩⟩
theorem backV_no {s:Str} {n d:Int} (h:(backV s n d).2≠0):backV s n d=((0,0),12):=by
 unfold backV at h ⊢
 split at h
 ·exact absurd rfl h
 ·rename_i c;rw [if_neg c]
theorem readV_is:IsRead readV:=by
 refine ⟨fun s h => ?_,fun s h => ?_,fun n d hc hn hd => ?_,fun s h => ?_⟩
 ·unfold readV at h ⊢
  split at h
  ·rename_i c;rw [if_pos c];exact backV_ok h
  ·cases h
 ·unfold readV at h ⊢
  split at h
  ·rename_i c;rw [if_pos c];exact backV_no h
  ·rename_i c;rw [if_neg c]
 ·have hb:∀ s,wrtV n d=s→backV s n d=((n,d),0):=fun s e=>by unfold backV;rw [if_pos ⟨hc,e⟩]
  have hno:(47:UInt8) ∉ itoa n:=itoa_no (by decide) (by decide)
  unfold readV
  by_cases h1:d=1
  ·have e:wrtV n d=itoa n:=by unfold wrtV;rw [if_pos h1]
   rw [e,cut1_no hno]
   dsimp only
   rw [whole_itoa hn,if_pos ⟨rfl,fun h=>by cases h⟩]
   dsimp only
   rw [← h1]
   exact hb _ e
  ·have e:wrtV n d=itoa n++47::itoa d:=by unfold wrtV;rw [if_neg h1]
   rw [e,cut1_at _ hno]
   dsimp only
   rw [whole_itoa hn,whole_itoa hd,if_pos ⟨rfl,fun _=>rfl⟩]
   dsimp only
   rw [if_pos rfl]
   exact hb _ e
 ·unfold readV at h ⊢
  split at h
  ·rename_i c
   rw [if_pos c]
   refine backV_fit (whole_ok c.1).1 ?_
   split
   ·rename_i c2;exact (whole_ok (c.2 c2)).1
   ·exact ⟨by decide,by decide⟩
  ·cases h
end Go.Proofs.YtfkfficabeclcaaGreatDoor

namespace Go.Proofs.YtfkfficabeclcaaGreatDoor
open Go.RowKit Go.Sort Sx Go.Lib
theorem idx_cons (c b:UInt8) (l:Str):Lib.index (b::l) [c]=if b=c then 0 else if Lib.index l [c] = -1 then -1 else Lib.index l [c]+1:=by
 rw [Lib.index]
 have e:([c]:Str).isPrefixOf (b::l)=(c == b):=by simp [List.isPrefixOf]
 rw [e]
 by_cases h:b=c
 ·subst h;simp
 ·rw [if_neg h,if_neg (by simpa using fun k=>h k.symm)]
  by_cases h2:Lib.index l [c] = -1
  ·rw [if_pos (by rw [h2];rfl),if_pos h2]
  ·rw [if_neg (by simpa using h2),if_neg h2]
theorem spl_idx (c:UInt8):∀ s:Str,(Lib.index s [c] = -1→spl c s=[s]∧cut1 c s=(s,[],false))∧∀ i:Nat,Lib.index s [c]=i→spl c s=s.take i::spl c (s.drop (i+1))∧cut1 c s=(s.take i,s.drop (i+1),true)∧i<s.length
 | []=>⟨fun _=>⟨rfl,rfl⟩,fun i h=>by
   have:Lib.index ([]:Str) [c] = -1:=rfl
   omega⟩
 | b::l=>by
  obtain ⟨h1,h2⟩:=spl_idx c l
  rw [idx_cons]
  by_cases h:b=c
  ·rw [if_pos h]
   refine ⟨fun k=>by omega,fun i k => ?_⟩
   have:i=0:=by omega
   subst this
   refine ⟨?_,?_,by simp⟩
   ·rw [spl,if_pos h];rfl
   ·rw [cut1,if_pos h];rfl
  ·rw [if_neg h]
   by_cases h3:Lib.index l [c] = -1
   ·rw [if_pos h3]
    obtain ⟨a,b'⟩:=h1 h3
    refine ⟨fun _=>⟨?_,?_⟩,fun i k=>by omega⟩
    ·rw [spl,if_neg h,a]
    ·rw [cut1,if_neg h,b']
   ·rw [if_neg h3]
    have hg:=Lib.index_ge l [c]
    refine ⟨fun k=>by omega,fun i k => ?_⟩
    obtain ⟨j,rfl⟩:∃ j,i=j+1:=⟨i-1,by omega⟩
    obtain ⟨a,b',c'⟩:=h2 j (by omega)
    refine ⟨?_,?_,by simp;omega⟩
    ·rw [spl,if_neg h,a];rfl
    ·rw [cut1,if_neg h,b'];rfl
theorem lcut_eq (c:UInt8) (s:Str):Lib.cut s [c]=cut1 c s:=by
 obtain ⟨h1,h2⟩:=spl_idx c s
 have hg:=Lib.index_ge s [c]
 unfold Lib.cut
 by_cases h:0≤Lib.index s [c]
 ·rw [if_pos h]
  obtain ⟨i,hi⟩:∃ i:Nat,Lib.index s [c]=i:=⟨(Lib.index s [c]).toNat,by omega⟩
  rw [(h2 i hi).2.1,hi,Int.toNat_natCast];rfl
 ·rw [if_neg h,(h1 (by omega)).2]
theorem lsplit_eq (c:UInt8):∀ (n:Nat) (s:Str),s.length≤n→Lib.splitK [c] 0 (Lib.count s [c]) s=spl c s
 | n,s,hn=>by
  obtain ⟨h1,h2⟩:=spl_idx c s
  have hg:=Lib.index_ge s [c]
  by_cases h:Lib.index s [c] = -1
  ·rw [Lib.count_miss h,(h1 h).1];rfl
  ·obtain ⟨i,hi⟩:∃ i:Nat,Lib.index s [c]=i:=⟨(Lib.index s [c]).toNat,by omega⟩
   obtain ⟨a,b,hlt⟩:=h2 i hi
   cases n with
   | zero=>omega
   | succ n =>
    have hc:Lib.count s [c]=1+Lib.count (s.drop (i+1)) [c]:=Lib.count_hit (by simp) hi
    rw [hc,Nat.add_comm 1,Lib.splitK,if_neg (by simpa using h),hi,Int.toNat_natCast,a]
    have:=lsplit_eq c n (s.drop (i+1)) (by rw [List.length_drop];omega)
    rw [show i+[c].length=i+1 from rfl,this,Nat.add_zero]
theorem spl_len (c:UInt8):∀ s:Str,(spl c s).length≤s.length+1
 | []=>by simp [spl]
 | b::l=>by
  have:=spl_len c l
  have hne:=spl_ne c l
  rw [spl]
  split
  ·simp only [List.length_cons];omega
  ·split
   ·rename_i h t e;rw [e] at this;simp only [List.length_cons] at this ⊢;omega
   ·rename_i e;exact absurd e hne
theorem spl_each (c:UInt8):∀ (s:Str),∀ x∈spl c s,x.length≤s.length
 | [],x,h=>by simp [spl] at h;subst h;simp
 | b::l,x,h=>by
  have ih:=spl_each c l
  rw [spl] at h
  split at h
  ·rcases List.mem_cons.1 h with rfl|h
   ·simp
   ·have:=ih x h;simp only [List.length_cons];omega
  ·split at h
   ·rename_i a t e
    rw [e] at ih
    rcases List.mem_cons.1 h with rfl|h
    ·have:=ih a (List.mem_cons_self ..);simp only [List.length_cons];omega
    ·have:=ih x (List.mem_cons_of_mem _ h);simp only [List.length_cons];omega
   ·rename_i e;exact absurd e (spl_ne c l)
theorem cut1_len (c:UInt8):∀ s:Str,(cut1 c s).1.length≤s.length∧(cut1 c s).2.1.length≤s.length
 | []=>by simp [cut1]
 | b::l=>by
  have ih:=cut1_len c l
  rw [cut1]
  split
  ·simp
  ·simp only [List.length_cons];omega
end Go.Proofs.YtfkfficabeclcaaGreatDoor
