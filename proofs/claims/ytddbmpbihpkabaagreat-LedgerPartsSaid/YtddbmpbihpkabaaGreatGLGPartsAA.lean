import Derived.StillTail
import Derived.Lib.QuietBelow
import Derived.BigQuiet
import Derived.WalkKit
import Derived.Lib.Hide
import Derived.ProofKit
import Derived.OpenShut
import Derived.Carry
set_option linter.all false
namespace Go.Proofs.YtddbmpbihpkabaaGreat
open Go Go.RowKit Go.Sort
section
variable {P:Program} {ops:Array Oper} {md:Region.Mode} {C:World→Prop}
def headQ (P:Program) (md:Region.Mode) (ops:Array Oper) (C:World→Prop) (n:Nat) (L:Array Bool→Act→Prop):Nat→Array Bool→Act→Prop
 | 0,listed,a=>L listed a
 | f+1,listed,a =>
  Region.ready md ops listed≠[]∧∀ i∈Region.ready md ops listed,i<n∧qOp P ops C i (headQ P md ops C n L f (listed.setIfInBounds i true)) a
theorem any_of_headQ {n g:Nat} {L:Array Bool→Act→Prop} {Q':Exit→Act→World→Prop} (hL:∀ listed a w,C w→L listed a→wpAny P md ops Q' g listed a w) :
  ∀ (f:Nat) (listed:Array Bool) (a:Act) (w:World),C w→headQ P md ops C n L f listed a→wpAny P md ops Q' (f+g) listed a w
 | 0,listed,a,w,hw,h=>by rw [Nat.zero_add];exact hL _ _ _ hw h
 | f+1,listed,a,w,hw,h=>by
  rw [show f+1+g=(f+g)+1 by omega]
  exact ⟨fun h0=>absurd h0 h.1,fun i hi=>wpOp_of_qOp hw (fun a' w' hw' h'=>any_of_headQ hL f _ a' w' hw' h') (h.2 i hi).2⟩
theorem headQ_first {n i:Nat} {oi:Oper} {v:Value} {L:Array Bool→Act→Prop} (hi:ops[i]? = some oi) (hsel:∀ (j:Nat) (o:Oper) cs b,ops[j]? = some o→o.op≠.select cs b)
  (hs:Region.sinkB md ops n=true) (hc:Region.chainB md ops n=true) (hn:n<ops.size) (hin:i<n)
  (hdone:∀ listed a,L listed a→∀ j∈Region.ready md ops listed,n≤j) :
  ∀ (f:Nat) (listed:Array Bool) (a:Act),HeadInv md ops n listed →
   (∀ j oj,ops[j]? = some oj→j≠i→listed.getD j true=false→(∀ e∈oj.after,Region.binds md e=true→e.on≠i)→oi.apart ops oj=true) →
   i∈Region.ready md ops listed→YieldsIn P ops C oi v a →
   headQ P md ops C n L f (listed.setIfInBounds i true) (a.put oi.dst v)→headQ P md ops C n L (f+1) listed a:=by
 intro f
 induction f with
 | zero =>
  intro listed a inv _ hr hy H
  have hun:=(mem_ready.1 hr).1
  refine ⟨fun h=>(by rw [h] at hr;cases hr),fun j hj => ?_⟩
  have hjn:j<n:=by
   rcases Nat.lt_or_ge j n with h|h
   ·exact h
   ·exact absurd hj (tail_waits hs hc hn inv _ i rfl hin hun j h)
  refine ⟨hjn,?_⟩
  by_cases hji:j=i
  ·subst hji;exact hy.qOp hi H
  ·have:=hdone _ _ H j (ready_mono hj hji)
   omega
 | succ f ih =>
  intro listed a inv hfree hr hy H
  have hun:=(mem_ready.1 hr).1
  refine ⟨fun h=>(by rw [h] at hr;cases hr),fun j hj => ?_⟩
  have hjn:j<n:=by
   rcases Nat.lt_or_ge j n with h|h
   ·exact h
   ·exact absurd hj (tail_waits hs hc hn inv _ i rfl hin hun j h)
  refine ⟨hjn,?_⟩
  by_cases hji:j=i
  ·subst hji;exact hy.qOp hi H
  ·have h1:=(H.2 j (ready_mono hj hji)).2
   obtain ⟨hjun,oj,hoj,hall⟩:=mem_ready.1 hj
   have hnot:∀ e∈oj.after,Region.binds md e=true→e.on≠i:=fun e he hb heq=>by
    have h1:=hall e he hb
    rw [heq,getD_both hun] at h1
    cases h1
   have h2:=qOp_put hoj (hfree j oj hoj hji hjun hnot) (fun cs b=>hsel i oi cs b hi) (fun cs b=>hsel j oj cs b hoj) hy h1
   have hfree':∀ k ok,ops[k]? = some ok→k≠i→(listed.setIfInBounds j true).getD k true=false →
     (∀ e∈ok.after,Region.binds md e=true→e.on≠i)→oi.apart ops ok=true:=fun k ok hk hki hun hno=>by
    refine hfree k ok hk hki ?_ hno
    by_cases hjk:j=k
    ·subst hjk;exact hjun
    ·rw [getD_set_ne true hjk] at hun;exact hun
   refine qOp_mono (fun a' h3=>ih (listed.setIfInBounds j true) a' (inv.set hj hjn) hfree' (ready_mono hr (Ne.symm hji)) h3.1 ?_) h2
   rw [Array.setIfInBounds_comm _ _ hji]
   exact h3.2
theorem headQ_lex {n g:Nat} {Lq:Act→Prop} (hsel:Region.noSelect ops=true) (hs:Region.sinkB md ops n=true) (hc:Region.chainB md ops n=true) (hn:n<ops.size) :
  ∀ (l:List Oper) (k:Nat) (listed:Array Bool) (a:Act),(∀ j,j<l.length→l[j]? = ops[k+j]?)→k+l.length=n→HeadInv md ops n listed →
  Region.lexHead md ops g l.length k listed=true→wpQuiet P ops C Lq l a →
  headQ P md ops C n (fun listed' a'=>Region.seqB md ops g n listed'=true∧Lq a') l.length listed a
 | [],k,listed,a,_,hk,_,hB,h=>by
  have:k=n:=by simpa using hk
  subst this
  exact ⟨by simpa [Region.lexHead] using hB,h⟩
 | o::l,k,listed,a,hl,hk,inv,hB,h=>by
  have h0:ops[k]? = some o:=by simpa using (hl 0 (by simp)).symm
  simp only [List.length_cons,Region.lexHead,Bool.and_eq_true] at hB
  obtain ⟨⟨hr,hf⟩,hB'⟩:=hB
  have hkn:k<n:=by simp only [List.length_cons] at hk;omega
  have hr':k∈Region.ready md ops listed:=by simpa using hr
  have hst:qOp P ops C k (wpQuiet P ops C Lq l) a:=by unfold qOp;simp only [h0];exact h
  obtain ⟨v,hy,hK⟩:=yieldsIn_of_qOp h0 hst
  exact headQ_first h0 (Region.noSelect_spec hsel) hs hc hn hkn (fun listed' a' hL=>seqB_ready hL.1) l.length listed a inv (Region.free_spec h0 hf) hr' hy
   (headQ_lex hsel hs hc hn l (k+1) _ _ (fun j hj=>by have:=hl (j+1) (by simp;omega);simpa [Nat.add_assoc,Nat.add_comm 1 j] using this) (by simp only [List.length_cons] at hk;omega) (inv.set hr' hkn) hB' hK)
theorem wp_region_quiet_tail {id:Nat} {Q:Exit→Act→World→Prop} {a:Act} {w:World} {l:List Oper} (n:Nat) (hm:P.follows .mixedOrders=true) (hB:Region.lexTailB .any l.toArray n=true)
  (hC:C { w with drawn:=w.drawn+1 })
  (h:wpQuiet P l.toArray C (fun a'=>∀ w',C w'→wpList P l.toArray Q (l.drop n) a' w') (l.take n) a):(Code.region id l.toArray true).wp P Q a w:=by
 simp only [Region.lexTailB,Bool.and_eq_true,decide_eq_true_eq] at hB
 obtain ⟨⟨⟨⟨hsel,hn⟩,hs⟩,hc⟩,hlex⟩:=hB
 have hn':n<l.length:=by simpa using hn
 have htl:(l.take n).length=n:=by simp;omega
 have hdl:(l.drop n).length=l.toArray.size-n:=by simp
 have inv0:HeadInv .any l.toArray n (Array.replicate l.toArray.size false) :=
  ⟨by simp,fun j oj _ hl=>(by rw [getD_replicate_false] at hl;cases hl),fun t _ ht=>getD_in (by simpa using ht) (getD_replicate_false _ _)⟩
 have H:=headQ_lex (md:=.any) (g:=l.toArray.size-n) hsel hs hc hn (l.take n) 0 _ a (fun j hj=>by
  have hj':j<n:=by rw [htl] at hj;exact hj
  simp [hj']) (by simpa using htl) inv0 (by rw [htl];exact hlex) h
 refine wp_region_any hm ?_
 have:=any_of_headQ (Q':=Q) (g:=l.toArray.size-n) (fun listed a' w' hw' hL=>by
  have:=wpAny_of_seq (md:=.any) (Q':=Q) (l.drop n) n listed a' w' (fun j=>by simp [List.getElem?_drop]) (by rw [hdl];exact hL.1) (hL.2 w' hw')
  rwa [hdl] at this) _ _ _ _ hC H
 rw [htl,show n+(l.toArray.size-n)=l.toArray.size by omega] at this
 exact this
theorem wp_region_tail_below {id:Nat} {Q:Exit→Act→World→Prop} {a:Act} {w:World} {l:List Oper} (n:Nat) (hm:P.follows .mixedOrders=true) (hB:Region.lexTailB .any l.toArray n=true)
  (h:wpQuiet P l.toArray (fun w'=>∃ p:Regrown,w'=grow (redrawn w p.d) p.os) (fun a'=>∀ w',(∃ p:Regrown,w'=grow (redrawn w p.d) p.os)→wpList P l.toArray Q (l.drop n) a' w') (l.take n) a) :
  (Code.region id l.toArray true).wp P Q a w :=
 wp_region_quiet_tail (C:=fun w'=>∃ p:Regrown,w'=grow (redrawn w p.d) p.os) n hm hB ⟨⟨w.drawn+1,#[]⟩,by rw [grow_empty];rfl⟩ h
end
end Go.Proofs.YtddbmpbihpkabaaGreat

namespace Go.Proofs.YtddbmpbihpkabaaGreat
open Go Go.RowKit Go.Sort
section
variable {P:Program} {ops:Array Oper} {md:Region.Mode} {C:World→Prop}
def Kept (w w':World):Prop:=Below w.heap.size w w'
theorem kept_of {P:Program} {f:FuncId} {args:Array Value} {w:World} {v:Value} (h:Calls P f args w fun e w'=>e=.returned v∧Below w.heap.size w w') :
  Calls P f args w fun e w'=>e=.returned v∧Kept w w':=h
def sUpon (P:Program) (w:World) (v:Value):Result Next→Prop
 | .ok (.value u) w'=>w'=w∧u=v
 | .ok .skip w'=>w'=w∧v=undef
 | .ok (.enter f args) w'=>w'=w∧Calls P f args w (fun e w''=>e=.returned v∧Kept w w'')
 | _=>False
def sAt (P:Program) (o:Oper) (a:Act) (w:World) (v:Value):Prop:=sUpon P w v ((execOp a.eval o).run P w)
def sq (P:Program) (o:Oper) (a:Act) (C:World→Prop) (next:Act→Prop):Prop:=∃ v,(∀ w,C w→sAt P o a w v)∧next (a.put o.dst v)
attribute [go_sem] sq sAt sUpon
def wpS (P:Program) (ops:Array Oper) (C:World→Prop) (Q:Act→Prop):List Oper→Act→Prop
 | [],a=>Q a
 | o::rest,a=>if Region.wanted o (yielded ops a.tmps) then sq P o a C (wpS P ops C Q rest) else wpS P ops C Q rest (a.put o.dst undef)
theorem wpS_nil {Q:Act→Prop} {a:Act} (h:Q a):wpS P ops C Q [] a:=h
theorem wpS_step {Q:Act→Prop} {a:Act} {o:Oper} {rest:List Oper}
  (h:∀ K:Act→Prop,(∀ a,wpS P ops C Q rest a→K a)→if Region.wanted o (yielded ops a.tmps) then sq P o a C K else K (a.put o.dst undef)):wpS P ops C Q (o::rest) a :=
 h _ (fun _ h=>h)
def sOp (P:Program) (ops:Array Oper) (C:World→Prop) (i:Nat) (K:Act→Prop) (a:Act):Prop :=
 match ops[i]? with
 | none=>K a
 | some o=>if Region.wanted o (yielded ops a.tmps) then sq P o a C K else K (a.put o.dst undef)
theorem sq_mono {o:Oper} {a:Act} {K K':Act→Prop} (h:∀ a,K a→K' a) (hh:sq P o a C K):sq P o a C K' :=
 let ⟨v,h1,h2⟩:=hh
 ⟨v,h1,h _ h2⟩
theorem sOp_mono {i:Nat} {a:Act} {K K':Act→Prop} (h:∀ a,K a→K' a) (hh:sOp P ops C i K a):sOp P ops C i K' a:=by
 unfold sOp at *
 split
 ·exact h _ (by simpa [*] using hh)
 ·rename_i o ho
  simp only [ho] at hh
  split
  ·rename_i hw;simp only [hw,if_true] at hh;exact sq_mono h hh
  ·rename_i hw;simp only [hw] at hh;exact h _ hh
def YieldsS (P:Program) (ops:Array Oper) (C:World→Prop) (o:Oper) (v:Value) (a:Act):Prop :=
 (Region.wanted o (yielded ops a.tmps)=true∧∀ w,C w→sAt P o a w v) ∨
 (Region.wanted o (yielded ops a.tmps)=false∧v=undef)
theorem YieldsS.sOp {i:Nat} {o:Oper} {v:Value} {a:Act} (hi:ops[i]? = some o) (hy:YieldsS P ops C o v a) {K:Act→Prop} (h:K (a.put o.dst v)):sOp P ops C i K a:=by
 unfold Proofs.YtddbmpbihpkabaaGreat.sOp
 simp only [hi]
 rcases hy with ⟨hw,hv⟩|⟨hw,rfl⟩
 ·simp only [hw,if_true];exact ⟨v,hv,h⟩
 ·simp only [hw,Bool.false_eq_true,if_false];exact h
theorem YieldsS.of_same {o:Oper} {v:Value} {a a':Act} (hy:YieldsS P ops C o v a) (he:execOp a'.eval o=execOp a.eval o)
  (hw:Region.wanted o (yielded ops a'.tmps)=Region.wanted o (yielded ops a.tmps)):YieldsS P ops C o v a':=by
 unfold YieldsS sAt at *
 rw [he,hw]
 exact hy
theorem yieldsS_of_sOp {i:Nat} {o:Oper} {a:Act} {K:Act→Prop} (hi:ops[i]? = some o) (h:sOp P ops C i K a):∃ v,YieldsS P ops C o v a∧K (a.put o.dst v):=by
 unfold sOp at h
 simp only [hi] at h
 by_cases hw:Region.wanted o (yielded ops a.tmps)=true
 ·simp only [hw,if_true] at h
  obtain ⟨v,h1,h2⟩:=h
  exact ⟨v,.inl ⟨hw,h1⟩,h2⟩
 ·simp only [hw] at h
  exact ⟨undef,.inr ⟨by simpa using hw,rfl⟩,h⟩
theorem sOp_put {j:Nat} {oi oj:Oper} {v:Value} (hj:ops[j]? = some oj) (hap:oi.apart ops oj=true)
  (hsi:∀ cs b,oi.op≠.select cs b) (hsj:∀ cs b,oj.op≠.select cs b) {K:Act→Prop} {a:Act}
  (hy:YieldsS P ops C oi v a) (h:sOp P ops C j K (a.put oi.dst v)) :
  sOp P ops C j (fun a'=>YieldsS P ops C oi v a'∧K (a'.put oi.dst v)) a:=by
 obtain ⟨h1,h2,h3⟩:=Oper.apart_spec hap
 have keep:∀ (a:Act),YieldsS P ops C oi v a→∀ u,YieldsS P ops C oi v (a.put oj.dst u):=fun a hy u =>
  hy.of_same (execOp_put oi hsi a oj.dst u h3) (wanted_put oi a oj.dst u h3)
 obtain ⟨u,hyj,hK⟩:=yieldsS_of_sOp hj h
 have hyj':YieldsS P ops C oj u a:=hyj.of_same (execOp_put oj hsj a oi.dst v h1).symm (wanted_put oj a oi.dst v h1).symm
 exact hyj'.sOp hj ⟨keep a hy u,by rw [← Act.put_comm a v u h2];exact hK⟩
theorem wpOp_of_sOp {i:Nat} {a:Act} {K:Act→Prop} {K':Act→World→Prop} {Q':Exit→Act→World→Prop} {w:World} {D:World→Prop}
  (hDC:∀ w,D w→C w) (hD:∀ w w',D w→Below w.heap.size w w'→D w') (hw0:D w) (h:∀ a w',D w'→K a→K' a w') (hh:sOp P ops C i K a):wpOp P ops Q' i K' a w:=by
 unfold sOp at hh
 unfold wpOp
 split
 ·rename_i ho;simp only [ho] at hh;exact h _ _ hw0 hh
 ·rename_i o ho
  simp only [ho] at hh
  split
  ·rename_i hw
   simp only [hw,if_true] at hh
   refine .inl ?_
   obtain ⟨v,h1,h2⟩:=hh
   have h3:=h1 w (hDC w hw0)
   unfold sAt at h3
   unfold Oper.wp
   generalize (execOp a.eval o).run P w=r at *
   cases r with
   | ok n w' =>
    cases n<;>simp only [sUpon] at h3<;>simp only [Oper.upon]
    case value u =>
     obtain ⟨e1,e2⟩:=h3
     rw [e1,e2]
     exact h _ _ hw0 h2
    case skip =>
     obtain ⟨e1,e2⟩:=h3
     rw [e1,← e2]
     exact h _ _ hw0 h2
    case enter f args =>
     obtain ⟨e1,hc⟩:=h3
     rw [e1]
     exact hc.mono fun e w'' ⟨he,hw''⟩=>by subst he;exact h _ _ (hD _ _ hw0 hw'') h2
   | halt x w'=>simp only [sUpon] at h3
  ·rename_i hw;simp only [hw] at hh;exact h _ _ hw0 hh
def headS (P:Program) (md:Region.Mode) (ops:Array Oper) (C:World→Prop) (n:Nat) (L:Array Bool→Act→Prop):Nat→Array Bool→Act→Prop
 | 0,listed,a=>L listed a
 | f+1,listed,a =>
  Region.ready md ops listed≠[]∧∀ i∈Region.ready md ops listed,i<n∧sOp P ops C i (headS P md ops C n L f (listed.setIfInBounds i true)) a
theorem headS_first {n i:Nat} {oi:Oper} {v:Value} {L:Array Bool→Act→Prop} (hi:ops[i]? = some oi) (hsel:∀ (j:Nat) (o:Oper) cs b,ops[j]? = some o→o.op≠.select cs b)
  (hs:Region.sinkB md ops n=true) (hc:Region.chainB md ops n=true) (hn:n<ops.size) (hin:i<n)
  (hdone:∀ listed a,L listed a→∀ j∈Region.ready md ops listed,n≤j) :
  ∀ (f:Nat) (listed:Array Bool) (a:Act),HeadInv md ops n listed →
   (∀ j oj,ops[j]? = some oj→j≠i→listed.getD j true=false→(∀ e∈oj.after,Region.binds md e=true→e.on≠i)→oi.apart ops oj=true) →
   i∈Region.ready md ops listed→YieldsS P ops C oi v a →
   headS P md ops C n L f (listed.setIfInBounds i true) (a.put oi.dst v)→headS P md ops C n L (f+1) listed a:=by
 intro f
 induction f with
 | zero =>
  intro listed a inv _ hr hy H
  have hun:=(mem_ready.1 hr).1
  refine ⟨fun h=>(by rw [h] at hr;cases hr),fun j hj => ?_⟩
  have hjn:j<n:=by
   rcases Nat.lt_or_ge j n with h|h
   ·exact h
   ·exact absurd hj (tail_waits hs hc hn inv _ i rfl hin hun j h)
  refine ⟨hjn,?_⟩
  by_cases hji:j=i
  ·subst hji;exact hy.sOp hi H
  ·have:=hdone _ _ H j (ready_mono hj hji)
   omega
 | succ f ih =>
  intro listed a inv hfree hr hy H
  have hun:=(mem_ready.1 hr).1
  refine ⟨fun h=>(by rw [h] at hr;cases hr),fun j hj => ?_⟩
  have hjn:j<n:=by
   rcases Nat.lt_or_ge j n with h|h
   ·exact h
   ·exact absurd hj (tail_waits hs hc hn inv _ i rfl hin hun j h)
  refine ⟨hjn,?_⟩
  by_cases hji:j=i
  ·subst hji;exact hy.sOp hi H
  ·have h1:=(H.2 j (ready_mono hj hji)).2
   obtain ⟨hjun,oj,hoj,hall⟩:=mem_ready.1 hj
   have hnot:∀ e∈oj.after,Region.binds md e=true→e.on≠i:=fun e he hb heq=>by
    have h1:=hall e he hb
    rw [heq,getD_both hun] at h1
    cases h1
   have h2:=sOp_put hoj (hfree j oj hoj hji hjun hnot) (fun cs b=>hsel i oi cs b hi) (fun cs b=>hsel j oj cs b hoj) hy h1
   have hfree':∀ k ok,ops[k]? = some ok→k≠i→(listed.setIfInBounds j true).getD k true=false →
     (∀ e∈ok.after,Region.binds md e=true→e.on≠i)→oi.apart ops ok=true:=fun k ok hk hki hun hno=>by
    refine hfree k ok hk hki ?_ hno
    by_cases hjk:j=k
    ·subst hjk;exact hjun
    ·rw [getD_set_ne true hjk] at hun;exact hun
   refine sOp_mono (fun a' h3=>ih (listed.setIfInBounds j true) a' (inv.set hj hjn) hfree' (ready_mono hr (Ne.symm hji)) h3.1 ?_) h2
   rw [Array.setIfInBounds_comm _ _ hji]
   exact h3.2
def lexHeadA (md:Region.Mode) (ops:Array Oper) (n g:Nat):Nat→Nat→Array Bool→Bool
 | 0,_,listed=>Region.seqB md ops g n listed
 | f+1,k,listed=>(Region.ready md ops listed).contains k && Region.free md ops listed k && lexHeadA md ops n g f (k+1) (listed.setIfInBounds k true)
theorem headS_lex {n m g:Nat} {Lq:Act→Prop} (hsel:Region.noSelect ops=true) (hs:Region.sinkB md ops n=true) (hc:Region.chainB md ops n=true) (hn:n<ops.size) (hmn:m≤n) :
  ∀ (l:List Oper) (k:Nat) (listed:Array Bool) (a:Act),(∀ j,j<l.length→l[j]? = ops[k+j]?)→k+l.length=m→HeadInv md ops n listed →
  lexHeadA md ops n g l.length k listed=true→wpS P ops C Lq l a →
  headS P md ops C n (fun listed' a'=>Region.seqB md ops g n listed'=true∧Lq a') l.length listed a
 | [],k,listed,a,_,_,_,hB,h=>⟨by simpa [lexHeadA] using hB,h⟩
 | o::l,k,listed,a,hl,hk,inv,hB,h=>by
  have h0:ops[k]? = some o:=by simpa using (hl 0 (by simp)).symm
  simp only [List.length_cons,lexHeadA,Bool.and_eq_true] at hB
  obtain ⟨⟨hr,hf⟩,hB'⟩:=hB
  have hkn:k<n:=by simp only [List.length_cons] at hk;omega
  have hr':k∈Region.ready md ops listed:=by simpa using hr
  have hst:sOp P ops C k (wpS P ops C Lq l) a:=by unfold sOp;simp only [h0];exact h
  obtain ⟨v,hy,hK⟩:=yieldsS_of_sOp h0 hst
  exact headS_first h0 (Region.noSelect_spec hsel) hs hc hn hkn (fun listed' a' hL=>seqB_ready hL.1) l.length listed a inv (Region.free_spec h0 hf) hr' hy
   (headS_lex hsel hs hc hn hmn l (k+1) _ _ (fun j hj=>by have:=hl (j+1) (by simp;omega);simpa [Nat.add_assoc,Nat.add_comm 1 j] using this) (by simp only [List.length_cons] at hk;omega) (inv.set hr' hkn) hB' hK)
theorem sOp_over {i d:Nat} {v:Value} {a:Act} {K:Act→Prop} (hsel:∀ (j:Nat) (o:Oper) cs b,ops[j]? = some o→o.op≠.select cs b)
  (hread:∀ o,ops[i]? = some o→d ∉ o.looksAt ops∧o.dst≠some d) (h:sOp P ops C i K a) :
  sOp P ops C i (fun a''=>∃ a',a''=a'.put (some d) v∧K a') (a.put (some d) v):=by
 unfold sOp at h
 split at h
 ·rename_i ho;unfold sOp;simp only [ho];exact ⟨_,rfl,h⟩
 ·rename_i o ho
  obtain ⟨h1,h2⟩:=hread o ho
  have hl:∀ e,some d=some e→e ∉ o.looksAt ops:=fun e he=>by injection he with he;subst he;exact h1
  have h':sOp P ops C i K a:=by unfold sOp;simp only [ho];exact h
  obtain ⟨u,hy,hK⟩:=yieldsS_of_sOp ho h'
  have hy':YieldsS P ops C o u (a.put (some d) v):=hy.of_same (execOp_put o (fun cs b=>hsel i o cs b ho) a (some d) v hl) (wanted_put o a (some d) v hl)
  exact hy'.sOp ho ⟨_,(Act.put_comm a v u (fun e he=>by injection he with he;subst he;exact h2)),hK⟩
theorem any_of_headS {n m d g:Nat} {v:Value} {L:Array Bool→Act→Prop} {Q':Exit→Act→World→Prop} {D:World→Prop}
  (hsel:∀ (j:Nat) (o:Oper) cs b,ops[j]? = some o→o.op≠.select cs b)
  (hread:∀ i o,i≠m→i<n→ops[i]? = some o→d ∉ o.looksAt ops∧o.dst≠some d)
  (hDC:∀ w,D w→C w) (hD:∀ w w',D w→Below w.heap.size w w'→D w')
  (hL:∀ listed a w,D w→L listed a→wpAny P md ops Q' g listed (a.put (some d) v) w) :
  ∀ (f:Nat) (listed:Array Bool) (a:Act) (w:World),D w→listed.getD m true=true→headS P md ops C n L f listed a→wpAny P md ops Q' (f+g) listed (a.put (some d) v) w
 | 0,listed,a,w,hw,_,h=>by rw [Nat.zero_add];exact hL _ _ _ hw h
 | f+1,listed,a,w,hw,hm,h=>by
  rw [show f+1+g=(f+g)+1 by omega]
  refine ⟨fun h0=>absurd h0 h.1,fun i hi => ?_⟩
  have him:i≠m:=fun e=>by
   have:=(mem_ready.1 hi).1
   rw [e,hm] at this
   cases this
  obtain ⟨hin,hs⟩:=h.2 i hi
  refine wpOp_of_sOp hDC hD hw (fun a'' w' hw' h' => ?_) (sOp_over (v:=v) hsel (fun o ho=>hread i o him hin ho) hs)
  obtain ⟨a',rfl,hK⟩:=h'
  exact any_of_headS hsel hread hDC hD hL f _ a' w' hw' (by rw [getD_set_ne true him];exact hm) hK
theorem any_with_alloc {n m d g:Nat} {zs:Array Value} {T:TypeId} {L:Array Bool→Act→Prop} {Q':Exit→Act→World→Prop} {oA:Oper}
  (hsel:∀ (j:Nat) (o:Oper) cs b,ops[j]? = some o→o.op≠.select cs b)
  (hA:ops[m]? = some oA) (hdst:oA.dst=some d) (hguard:oA.guard=none) (hafter:oA.after=#[]) (hmn:m<n)
  (hrun:∀ (a:Act) (w:World),(execOp a.eval oA).run P w=.ok (.value (.pointer (some ⟨w.heap.size,0,none⟩))) (w.alloc (.cells zs T)))
  (hread:∀ i o,i≠m→i<n→ops[i]? = some o→d ∉ o.looksAt ops∧o.dst≠some d)
  (hwait:Region.waitsFor md ops n m=true)
  (hC:∀ w w',C w→Below w.heap.size w w'→C w')
  (hone:∀ listed a,L listed a→∀ j∈Region.ready md ops listed,j=n)
  (hL:∀ listed a w w',C w→Below (w.alloc (.cells zs T)).heap.size (w.alloc (.cells zs T)) w'→L listed a→wpAny P md ops Q' g listed (a.put (some d) (.pointer (some ⟨w.heap.size,0,none⟩))) w') :
  ∀ (f:Nat) (listed:Array Bool) (a:Act) (w:World),C w→listed.getD m true=false→headS P md ops C n L f (listed.setIfInBounds m true) a→wpAny P md ops Q' (f+1+g) listed a w:=by
 have hready:∀ listed:Array Bool,listed.getD m true=false→m∈Region.ready md ops listed:=fun listed h =>
  mem_ready.2 ⟨h,oA,hA,fun e he=>by rw [hafter] at he;simp at he⟩
 have hmake:∀ (f:Nat) (listed:Array Bool) (a:Act) (w:World),C w→listed.getD m true=false→headS P md ops C n L f (listed.setIfInBounds m true) a →
   wpOp P ops Q' m (wpAny P md ops Q' (f+g) (listed.setIfInBounds m true)) a w:=by
  intro f listed a w hw hm h
  have hwant:Region.wanted oA (yielded ops a.tmps)=true:=by simp [Region.wanted,hguard]
  unfold wpOp
  simp only [hA,hwant,if_true]
  refine .inl ?_
  unfold Oper.wp
  rw [hrun a w]
  simp only [Oper.upon,hdst]
  have hb:Below w.heap.size w (w.alloc (.cells zs T)):=(Below.refl _ _).alloc (Nat.le_refl _) _
  refine any_of_headS (C:=C) (D:=fun w'=>Below (w.alloc (.cells zs T)).heap.size (w.alloc (.cells zs T)) w') hsel hread
   (fun w' h'=>hC w w' hw (hb.trans (h'.mono (by simp)))) (fun w1 w2 h1 h2=>h1.trans (h2.mono h1.size)) (fun l' a' w' hw' hl=>hL l' a' w w' hw hw' hl)
   f _ a _ (Below.refl _ _) ?_ h
  have hlt:m<listed.size:=by
   rcases Nat.lt_or_ge m listed.size with h'|h'
   ·exact h'
   ·simp [Array.getElem?_eq_none h'] at hm
  simp [hlt]
 intro f
 induction f with
 | zero =>
  intro listed a w hw hm h
  rw [show 0+1+g=(0+g)+1 by omega]
  refine ⟨fun h0=>(by have:=hready listed hm;rw [h0] at this;cases this),fun i hi => ?_⟩
  by_cases him:i=m
  ·subst him;exact hmake 0 listed a w hw hm h
  ·have:=hone _ _ h i (ready_mono hi him)
   subst this
   obtain ⟨oj,hoj,e,he,hb,hon⟩:=Region.waitsFor_spec hwait
   obtain ⟨_,o',ho',hall⟩:=mem_ready.1 hi
   have:oj=o':=Option.some.inj (hoj.symm.trans ho')
   subst this
   have h2:=hall e he hb
   rw [hon,getD_both hm] at h2
   cases h2
 | succ f ih =>
  intro listed a w hw hm h
  rw [show f+1+1+g=(f+1+g)+1 by omega]
  refine ⟨fun h0=>(by have:=hready listed hm;rw [h0] at this;cases this),fun i hi => ?_⟩
  by_cases him:i=m
  ·subst him;exact hmake (f+1) listed a w hw hm h
  ·obtain ⟨hin,hs⟩:=h.2 i (ready_mono hi him)
   refine wpOp_of_sOp (D:=C) (fun _ h=>h) hC hw (fun a' w' hw' h'=>ih (listed.setIfInBounds i true) a' w' hw' (by rw [getD_set_ne true him];exact hm) ?_) hs
   rw [Array.setIfInBounds_comm _ _ him]
   exact h'
def lexAllocB (md:Region.Mode) (ops:Array Oper) (m d:Nat):Bool :=
 Region.noSelect ops && decide (m+1<ops.size) && Region.sinkB md ops (m+1) && Region.chainB md ops (m+1) && Region.waitsFor md ops (m+1) m &&
 ((List.range (m+1)).all fun i=>i == m || match ops[i]? with|some o => !(o.looksAt ops).contains d && o.dst != some d|none=>true) &&
 (match ops[m]? with|some o=>o.dst == some d && o.guard.isNone && o.after.isEmpty|none=>false) &&
 lexHeadA md ops (m+1) (ops.size-(m+1)) m 0 ((Array.replicate ops.size false).setIfInBounds m true)
theorem wp_region_alloc {id:Nat} {Q:Exit→Act→World→Prop} {a:Act} {w:World} {l:List Oper} (m d:Nat) (zs:Array Value) (T:TypeId) (oA:Oper) (hA:l[m]? = some oA) (hm:P.follows .mixedOrders=true)
  (hB:lexAllocB .any l.toArray m d=true)
  (hrun:∀ (a:Act) (w:World),(execOp a.eval oA).run P w=.ok (.value (.pointer (some ⟨w.heap.size,0,none⟩))) (w.alloc (.cells zs T)))
  (h:wpS P l.toArray (fun w'=>∃ p:Regrown,w'=grow (redrawn w p.d) p.os)
   (fun a'=>∀ p q:Regrown,wpList P l.toArray Q (l.drop (m+1)) (a'.put (some d) (.pointer (some ⟨w.heap.size+p.os.size,0,none⟩))) (grow (redrawn ((grow (redrawn w p.d) p.os).alloc (.cells zs T)) q.d) q.os)) (l.take m) a) :
  (Code.region id l.toArray true).wp P Q a w:=by
 simp only [lexAllocB,Bool.and_eq_true,decide_eq_true_eq] at hB
 obtain ⟨⟨⟨⟨⟨⟨⟨hsel,hn⟩,hs⟩,hc⟩,hwt⟩,hrd⟩,hal⟩,hlex⟩:=hB
 have hA':l.toArray[m]? = some oA:=by simpa using hA
 rw [hA'] at hal
 simp only [Bool.and_eq_true,beq_iff_eq,Option.isNone_iff_eq_none,Array.isEmpty_iff] at hal
 obtain ⟨⟨hdst,hguard⟩,hafter⟩:=hal
 have hn':m+1<l.length:=by simpa using hn
 have htl:(l.take m).length=m:=by simp;omega
 have hdl:(l.drop (m+1)).length=l.toArray.size-(m+1):=by simp
 have inv0:HeadInv .any l.toArray (m+1) ((Array.replicate l.toArray.size false).setIfInBounds m true):=by
  refine ⟨by simp,fun j oj hj hl e he hb => ?_,fun t ht _ => ?_⟩
  ·by_cases hjm:m=j
   ·subst hjm
    rw [hA'] at hj
    injection hj with hj
    subst hj
    rw [hafter] at he
    simp at he
   ·rw [getD_set_ne false hjm,getD_replicate_false] at hl
    cases hl
  ·rw [getD_set_ne true (by omega)]
   exact getD_in (by simpa using (by assumption:t<l.toArray.size)) (getD_replicate_false _ _)
 have H:=headS_lex (md:=.any) (n:=m+1) (m:=m) (g:=l.toArray.size-(m+1)) hsel hs hc hn (by omega) (l.take m) 0 _ a (fun j hj=>by
  have hj':j<m:=by rw [htl] at hj;exact hj
  simp [hj']) (by simpa using htl) inv0 (by rw [htl];exact hlex) h
 refine wp_region_any hm ?_
 have hread:∀ i o,i≠m→i<m+1→l.toArray[i]? = some o→d ∉ o.looksAt l.toArray∧o.dst≠some d:=by
  intro i o him hi ho
  have h1:=List.all_eq_true.1 hrd i (List.mem_range.2 hi)
  rw [ho] at h1
  simp only [Bool.or_eq_true,beq_iff_eq,him,false_or,Bool.and_eq_true,Bool.not_eq_true',bne_iff_ne,ne_eq] at h1
  refine ⟨fun hd => ?_,h1.2⟩
  rw [List.contains_iff_mem.2 hd] at h1
  simp at h1
 have hCc:∀ w1 w2:World,(∃ p:Regrown,w1=grow (redrawn w p.d) p.os)→Below w1.heap.size w1 w2→∃ p:Regrown,w2=grow (redrawn w p.d) p.os:=by
  rintro w1 w2 ⟨p,rfl⟩ hb
  exact regrown_of_below ((below_regrown w p.d p.os).trans (hb.mono (below_regrown w p.d p.os).size))
 have:=any_with_alloc (P:=P) (C:=fun w'=>∃ p:Regrown,w'=grow (redrawn w p.d) p.os) (Q':=Q) (g:=l.toArray.size-(m+1)) (zs:=zs) (T:=T)
  (L:=fun listed' a'=>Region.seqB .any l.toArray (l.toArray.size-(m+1)) (m+1) listed'=true∧∀ p q:Regrown,wpList P l.toArray Q (l.drop (m+1)) (a'.put (some d) (.pointer (some ⟨w.heap.size+p.os.size,0,none⟩))) (grow (redrawn ((grow (redrawn w p.d) p.os).alloc (.cells zs T)) q.d) q.os))
  (Region.noSelect_spec hsel) hA' hdst hguard hafter (Nat.lt_succ_self m) hrun hread hwt hCc
  (fun listed' a' hL j hj=>by
   have hg:∃ g',l.toArray.size-(m+1)=g'+1:=⟨l.toArray.size-(m+1)-1,by omega⟩
   obtain ⟨g',hg'⟩:=hg
   have hq:=hL.1
   rw [hg'] at hq
   simp only [Region.seqB,Bool.and_eq_true,decide_eq_true_eq] at hq
   rw [hq.1] at hj
   simpa using hj)
  (fun listed a' w1 w2 hw1 hw2 hL=>by
   obtain ⟨p,rfl⟩:=hw1
   obtain ⟨q,rfl⟩:=regrown_of_below hw2
   have hfin:=hL.2 p q
   have:=wpAny_of_seq (md:=.any) (Q':=Q) (l.drop (m+1)) (m+1) listed _ _ (fun j=>by simp [List.getElem?_drop]) (by rw [hdl];exact hL.1) hfin
   rw [hdl] at this
   simpa [size_grow,redrawn] using this)
  m (Array.replicate l.toArray.size false) a { w with drawn:=w.drawn+1 } ⟨⟨w.drawn+1,#[]⟩,by rw [grow_empty];rfl⟩
  (getD_in (by simp;omega) (getD_replicate_false _ _)) (by rw [htl] at H;exact H)
 rw [show m+1+(l.toArray.size-(m+1))=l.toArray.size by omega] at this
 exact this
theorem wp_region_alloc_at {id:Nat} {Q:Exit→Act→World→Prop} {a:Act} {w:World} {l:List Oper} (m d:Nat) (zs:Array Value) (T:TypeId) (hm:P.follows .mixedOrders=true)
  (hB:lexAllocB .any l.toArray m d=true)
  (hrun:∀ (a:Act) (w:World),(execOp a.eval ((l[m]?).getD default)).run P w=.ok (.value (.pointer (some ⟨w.heap.size,0,none⟩))) (w.alloc (.cells zs T)))
  (h:wpS P l.toArray (fun w'=>∃ p:Regrown,w'=grow (redrawn w p.d) p.os)
   (fun a'=>∀ p q:Regrown,wpList P l.toArray Q (l.drop (m+1)) (a'.put (some d) (.pointer (some ⟨w.heap.size+p.os.size,0,none⟩))) (grow (redrawn ((grow (redrawn w p.d) p.os).alloc (.cells zs T)) q.d) q.os)) (l.take m) a) :
  (Code.region id l.toArray true).wp P Q a w:=by
 have hlt:m<l.length:=by
  have hB':=hB
  simp only [lexAllocB,Bool.and_eq_true,decide_eq_true_eq] at hB'
  have:=hB'.1.1.1.1.1.1.2
  simp at this
  omega
 refine wp_region_alloc m d zs T l[m] (by simp [hlt]) hm hB ?_ h
 intro a w
 have:=hrun a w
 rw [List.getElem?_eq_getElem hlt] at this
 exact this
end
end Go.Proofs.YtddbmpbihpkabaaGreat

namespace Go.Proofs.YtddbmpbihpkabaaGreat
open Go Go.RowKit Go.Sort
section
variable {P:Program} {ops:Array Oper} {md:Region.Mode} {C:World→Prop}
def Unseen (P:Program) (ops:Array Oper) (C:World→Prop) (good:Nat→Prop) (ov:Act→Act):Prop :=
 ∀ (i:Nat) (K:Act→Prop) (a:Act),good i→sOp P ops C i K a→sOp P ops C i (fun a''=>∃ a',a''=ov a'∧K a') (ov a)
theorem unseen_id {good:Nat→Prop}:Unseen P ops C good id:=fun i K a _ h=>sOp_mono (fun a' h'=>⟨a',rfl,h'⟩) h
theorem Unseen.put {good:Nat→Prop} {ov:Act→Act} {d:Nat} {v:Value} (hsel:∀ (j:Nat) (o:Oper) cs b,ops[j]? = some o→o.op≠.select cs b)
  (hov:Unseen P ops C good ov) (hread:∀ i o,good i→ops[i]? = some o→d ∉ o.looksAt ops∧o.dst≠some d) :
  Unseen P ops C good (fun a=>(ov a).put (some d) v):=fun i K a hg h =>
 sOp_mono (fun _ h'=>by
  obtain ⟨a',rfl,a2,rfl,hK⟩:=h'
  exact ⟨a2,rfl,hK⟩) (sOp_over (v:=v) hsel (fun o ho=>hread i o hg ho) (hov i K a hg h))
theorem head_ov {n g:Nat} {good:Nat→Prop} {ov:Act→Act} {L:Array Bool→Act→Prop} {Q':Exit→Act→World→Prop} {D:World→Prop}
  (hov:Unseen P ops C good ov) (hDC:∀ w,D w→C w) (hD:∀ w w',D w→Below w.heap.size w w'→D w') (hkeep:Array Bool→Prop)
  (hk1:∀ listed i,hkeep listed→i∈Region.ready md ops listed→i<n→good i∧hkeep (listed.setIfInBounds i true))
  (hL:∀ listed a w,D w→L listed a→wpAny P md ops Q' g listed (ov a) w) :
  ∀ (f:Nat) (listed:Array Bool) (a:Act) (w:World),D w→hkeep listed→headS P md ops C n L f listed a→wpAny P md ops Q' (f+g) listed (ov a) w
 | 0,listed,a,w,hw,_,h=>by rw [Nat.zero_add];exact hL _ _ _ hw h
 | f+1,listed,a,w,hw,hk,h=>by
  rw [show f+1+g=(f+g)+1 by omega]
  refine ⟨fun h0=>absurd h0 h.1,fun i hi => ?_⟩
  obtain ⟨hin,hs⟩:=h.2 i hi
  obtain ⟨hg,hk2⟩:=hk1 listed i hk hi hin
  refine wpOp_of_sOp hDC hD hw (fun a'' w' hw' h' => ?_) (hov i _ a hg hs)
  obtain ⟨a',rfl,hK⟩:=h'
  exact head_ov hov hDC hD hkeep hk1 hL f _ a' w' hw' hk2 hK
structure Makes (P:Program) (ops:Array Oper) (m d:Nat) (zs:Array Value) (T:TypeId) (o:Oper):Prop where
 at_:ops[m]? = some o
 dst:o.dst=some d
 guard:o.guard=none
 after:o.after=#[]
 run:∀ (a:Act) (w:World),(execOp a.eval o).run P w=.ok (.value (.pointer (some ⟨w.heap.size,0,none⟩))) (w.alloc (.cells zs T))
theorem Makes.ready {m d:Nat} {zs:Array Value} {T:TypeId} {o:Oper} (h:Makes P ops m d zs T o) {listed:Array Bool} (hm:listed.getD m true=false):m∈Region.ready md ops listed :=
 mem_ready.2 ⟨hm,o,h.at_,fun e he=>by rw [h.after] at he;simp at he⟩
theorem Makes.wp {m d:Nat} {zs:Array Value} {T:TypeId} {o:Oper} (h:Makes P ops m d zs T o) {a:Act} {w:World} {K:Act→World→Prop} {Q':Exit→Act→World→Prop}
  (hK:K (a.put (some d) (.pointer (some ⟨w.heap.size,0,none⟩))) (w.alloc (.cells zs T))):wpOp P ops Q' m K a w:=by
 have hwant:Region.wanted o (yielded ops a.tmps)=true:=by simp [Region.wanted,h.guard]
 unfold wpOp
 simp only [h.at_,hwant,if_true]
 refine .inl ?_
 unfold Oper.wp
 rw [h.run a w]
 simp only [Oper.upon,h.dst]
 exact hK
theorem getD_set_same {listed:Array Bool} {m:Nat} (hm:listed.getD m true=false):(listed.setIfInBounds m true).getD m true=true:=by
 have hlt:m<listed.size:=by
  rcases Nat.lt_or_ge m listed.size with h'|h'
  ·exact h'
  ·simp [Array.getElem?_eq_none h'] at hm
 simp [hlt]
theorem not_waiting {n m i:Nat} {listed:Array Bool} (hwait:Region.waitsFor md ops n m=true) (hm:listed.getD m true=false) (hi:i∈Region.ready md ops listed):i≠n:=by
 rintro rfl
 obtain ⟨oj,hoj,e,he,hb,hon⟩:=Region.waitsFor_spec hwait
 obtain ⟨_,o',ho',hall⟩:=mem_ready.1 hi
 have:oj=o':=Option.some.inj (hoj.symm.trans ho')
 subst this
 have h2:=hall e he hb
 rw [hon,getD_both hm] at h2
 cases h2
theorem one_pending {n m d g:Nat} {zs:Array Value} {T:TypeId} {oA:Oper} {done:Nat→Prop} {ov:Act→Act} {L:Array Bool→Act→Prop} {Q':Exit→Act→World→Prop} {D:World→Prop}
  (hsel:∀ (j:Nat) (o:Oper) cs b,ops[j]? = some o→o.op≠.select cs b)
  (hA:Makes P ops m d zs T oA)
  (hov:Unseen P ops C (fun i=>i<n∧¬ done i∧i≠m) ov)
  (hread:∀ i o,(i<n∧¬ done i∧i≠m)→ops[i]? = some o→d ∉ o.looksAt ops∧o.dst≠some d)
  (hwait:Region.waitsFor md ops n m=true)
  (hDC:∀ w,D w→C w) (hD:∀ w w',D w→Below w.heap.size w w'→D w')
  (hone:∀ listed a,L listed a→∀ j∈Region.ready md ops listed,j=n)
  (hL:∀ listed a w w',D w→Below (w.alloc (.cells zs T)).heap.size (w.alloc (.cells zs T)) w'→L listed a→wpAny P md ops Q' g listed ((ov a).put (some d) (.pointer (some ⟨w.heap.size,0,none⟩))) w') :
  ∀ (f:Nat) (listed:Array Bool) (a:Act) (w:World),D w→(∀ i,done i→listed.getD i true=true)→listed.getD m true=false→headS P md ops C n L f (listed.setIfInBounds m true) a →
   wpAny P md ops Q' (f+1+g) listed (ov a) w:=by
 have hmake:∀ (f:Nat) (listed:Array Bool) (a:Act) (w:World),D w→(∀ i,done i→listed.getD i true=true)→listed.getD m true=false→headS P md ops C n L f (listed.setIfInBounds m true) a →
   wpOp P ops Q' m (wpAny P md ops Q' (f+g) (listed.setIfInBounds m true)) (ov a) w:=by
  intro f listed a w hw hdn hm h
  refine hA.wp ?_
  have hb:Below w.heap.size w (w.alloc (.cells zs T)):=(Below.refl _ _).alloc (Nat.le_refl _) _
  refine head_ov (C:=C) (D:=fun w'=>Below (w.alloc (.cells zs T)).heap.size (w.alloc (.cells zs T)) w') (good:=fun i=>i<n∧¬ done i∧i≠m) (ov:=fun a=>(ov a).put (some d) (.pointer (some ⟨w.heap.size,0,none⟩)))
   (hov.put hsel hread) (fun w' h'=>hDC w' (hD w w' hw (hb.trans (h'.mono (by simp))))) (fun w1 w2 h1 h2=>h1.trans (h2.mono h1.size))
   (fun l=>(∀ i,done i→l.getD i true=true)∧l.getD m true=true) (fun l i hl hi hin => ?_) (fun l' a' w' hw' hl=>hL l' a' w w' hw hw' hl)
   f _ a _ (Below.refl _ _) ⟨fun i hi => ?_,getD_set_same hm⟩ h
  ·have hun:=(mem_ready.1 hi).1
   have h1:¬ done i:=fun hd=>by rw [hl.1 i hd] at hun;cases hun
   have h2:i≠m:=fun e=>by rw [e,hl.2] at hun;cases hun
   exact ⟨⟨hin,h1,h2⟩,fun k hk=>by rw [getD_set_ne true (by rintro rfl;exact h1 hk)];exact hl.1 k hk,by rw [getD_set_ne true h2];exact hl.2⟩
  ·by_cases him:m=i
   ·rw [← him];exact getD_set_same hm
   ·rw [getD_set_ne true him];exact hdn i hi
 intro f
 induction f with
 | zero =>
  intro listed a w hw hdn hm h
  rw [show 0+1+g=(0+g)+1 by omega]
  refine ⟨fun h0=>(by have:=hA.ready (md:=md) hm;rw [h0] at this;cases this),fun i hi => ?_⟩
  by_cases him:i=m
  ·subst him;exact hmake 0 listed a w hw hdn hm h
  ·exact absurd (hone _ _ h i (ready_mono hi him)) (not_waiting hwait hm hi)
 | succ f ih =>
  intro listed a w hw hdn hm h
  rw [show f+1+1+g=(f+1+g)+1 by omega]
  refine ⟨fun h0=>(by have:=hA.ready (md:=md) hm;rw [h0] at this;cases this),fun i hi => ?_⟩
  by_cases him:i=m
  ·subst him;exact hmake (f+1) listed a w hw hdn hm h
  ·obtain ⟨hin,hs⟩:=h.2 i (ready_mono hi him)
   have hun:=(mem_ready.1 hi).1
   have h1:¬ done i:=fun hd=>by rw [hdn i hd] at hun;cases hun
   refine wpOp_of_sOp hDC hD hw (fun a'' w' hw' h' => ?_) (hov i _ a ⟨hin,h1,him⟩ hs)
   obtain ⟨a',rfl,hK⟩:=h'
   refine ih (listed.setIfInBounds i true) a' w' hw' (fun k hk=>by rw [getD_set_ne true (by rintro rfl;exact h1 hk)];exact hdn k hk) (by rw [getD_set_ne true him];exact hm) ?_
   rw [Array.setIfInBounds_comm _ _ him]
   exact hK
theorem two_pending {n m1 m2 d1 d2 g:Nat} {z1 z2:Array Value} {T1 T2:TypeId} {o1 o2:Oper} {L:Array Bool→Act→Prop} {Q':Exit→Act→World→Prop}
  (hsel:∀ (j:Nat) (o:Oper) cs b,ops[j]? = some o→o.op≠.select cs b) (hne:m1≠m2)
  (h1:Makes P ops m1 d1 z1 T1 o1) (h2:Makes P ops m2 d2 z2 T2 o2)
  (hr1:∀ i o,(i<n∧i≠m1∧i≠m2)→ops[i]? = some o→d1 ∉ o.looksAt ops∧o.dst≠some d1)
  (hr2:∀ i o,(i<n∧i≠m1∧i≠m2)→ops[i]? = some o→d2 ∉ o.looksAt ops∧o.dst≠some d2)
  (hw1:Region.waitsFor md ops n m1=true) (hw2:Region.waitsFor md ops n m2=true)
  (hC:∀ w w',C w→Below w.heap.size w w'→C w')
  (hone:∀ listed a,L listed a→∀ j∈Region.ready md ops listed,j=n)
  (hL1:∀ listed a w w' w'',C w→Below (w.alloc (.cells z1 T1)).heap.size (w.alloc (.cells z1 T1)) w'→Below (w'.alloc (.cells z2 T2)).heap.size (w'.alloc (.cells z2 T2)) w''→L listed a →
   wpAny P md ops Q' g listed ((a.put (some d1) (.pointer (some ⟨w.heap.size,0,none⟩))).put (some d2) (.pointer (some ⟨w'.heap.size,0,none⟩))) w'')
  (hL2:∀ listed a w w' w'',C w→Below (w.alloc (.cells z2 T2)).heap.size (w.alloc (.cells z2 T2)) w'→Below (w'.alloc (.cells z1 T1)).heap.size (w'.alloc (.cells z1 T1)) w''→L listed a →
   wpAny P md ops Q' g listed ((a.put (some d2) (.pointer (some ⟨w.heap.size,0,none⟩))).put (some d1) (.pointer (some ⟨w'.heap.size,0,none⟩))) w'') :
  ∀ (f:Nat) (listed:Array Bool) (a:Act) (w:World),C w→listed.getD m1 true=false→listed.getD m2 true=false →
   headS P md ops C n L f ((listed.setIfInBounds m1 true).setIfInBounds m2 true) a→wpAny P md ops Q' (f+2+g) listed a w:=by
 have hmk1:∀ (f:Nat) (listed:Array Bool) (a:Act) (w:World),C w→listed.getD m1 true=false→listed.getD m2 true=false →
   headS P md ops C n L f ((listed.setIfInBounds m1 true).setIfInBounds m2 true) a→wpOp P ops Q' m1 (wpAny P md ops Q' (f+1+g) (listed.setIfInBounds m1 true)) a w:=by
  intro f listed a w hw hm1 hm2 h
  refine h1.wp ?_
  have hb:Below w.heap.size w (w.alloc (.cells z1 T1)):=(Below.refl _ _).alloc (Nat.le_refl _) _
  refine one_pending (C:=C) (D:=fun w'=>Below (w.alloc (.cells z1 T1)).heap.size (w.alloc (.cells z1 T1)) w') (done:=fun i=>i=m1) (ov:=fun a=>a.put (some d1) (.pointer (some ⟨w.heap.size,0,none⟩))) hsel h2
   ((unseen_id (good:=fun i=>i<n∧¬ i=m1∧i≠m2)).put hsel hr1) hr2 hw2
   (fun w' h'=>hC w w' hw (hb.trans (h'.mono (by simp)))) (fun w1 w2 h1 h2=>h1.trans (h2.mono h1.size)) hone
   (fun l' a' w' w'' hw' hw'' hl=>hL1 l' a' w w' w'' hw hw' hw'' hl) f _ a _ (Below.refl _ _) (fun i hi=>by rw [hi];exact getD_set_same hm1) (by rw [getD_set_ne true hne];exact hm2) h
 have hmk2:∀ (f:Nat) (listed:Array Bool) (a:Act) (w:World),C w→listed.getD m1 true=false→listed.getD m2 true=false →
   headS P md ops C n L f ((listed.setIfInBounds m1 true).setIfInBounds m2 true) a→wpOp P ops Q' m2 (wpAny P md ops Q' (f+1+g) (listed.setIfInBounds m2 true)) a w:=by
  intro f listed a w hw hm1 hm2 h
  refine h2.wp ?_
  have hb:Below w.heap.size w (w.alloc (.cells z2 T2)):=(Below.refl _ _).alloc (Nat.le_refl _) _
  refine one_pending (C:=C) (D:=fun w'=>Below (w.alloc (.cells z2 T2)).heap.size (w.alloc (.cells z2 T2)) w') (done:=fun i=>i=m2) (ov:=fun a=>a.put (some d2) (.pointer (some ⟨w.heap.size,0,none⟩))) hsel h1
   ((unseen_id (good:=fun i=>i<n∧¬ i=m2∧i≠m1)).put hsel (fun i o hi=>hr2 i o ⟨hi.1,hi.2.2,hi.2.1⟩)) (fun i o hi=>hr1 i o ⟨hi.1,hi.2.2,hi.2.1⟩) hw1
   (fun w' h'=>hC w w' hw (hb.trans (h'.mono (by simp)))) (fun w1 w2 h1 h2=>h1.trans (h2.mono h1.size)) hone
   (fun l' a' w' w'' hw' hw'' hl=>hL2 l' a' w w' w'' hw hw' hw'' hl) f _ a _ (Below.refl _ _) (fun i hi=>by rw [hi];exact getD_set_same hm2) (by rw [getD_set_ne true (Ne.symm hne)];exact hm1) ?_
  rw [Array.setIfInBounds_comm _ _ (Ne.symm hne)]
  exact h
 intro f
 induction f with
 | zero =>
  intro listed a w hw hm1 hm2 h
  rw [show 0+2+g=(0+1+g)+1 by omega]
  refine ⟨fun h0=>(by have:=h1.ready (md:=md) hm1;rw [h0] at this;cases this),fun i hi => ?_⟩
  by_cases him1:i=m1
  ·subst him1;exact hmk1 0 listed a w hw hm1 hm2 h
  ·by_cases him2:i=m2
   ·subst him2;exact hmk2 0 listed a w hw hm1 hm2 h
   ·exact absurd (hone _ _ h i (ready_mono (ready_mono hi him1) him2)) (not_waiting hw1 hm1 hi)
 | succ f ih =>
  intro listed a w hw hm1 hm2 h
  rw [show f+1+2+g=(f+2+g)+1 by omega]
  refine ⟨fun h0=>(by have:=h1.ready (md:=md) hm1;rw [h0] at this;cases this),fun i hi => ?_⟩
  by_cases him1:i=m1
  ·subst him1;have:=hmk1 (f+1) listed a w hw hm1 hm2 h;rw [show f+1+1+g=f+2+g by omega] at this;exact this
  ·by_cases him2:i=m2
   ·subst him2;have:=hmk2 (f+1) listed a w hw hm1 hm2 h;rw [show f+1+1+g=f+2+g by omega] at this;exact this
   ·obtain ⟨hin,hs⟩:=h.2 i (ready_mono (ready_mono hi him1) him2)
    refine wpOp_of_sOp (D:=C) (fun _ h=>h) hC hw (fun a' w' hw' h'=>ih (listed.setIfInBounds i true) a' w' hw' (by rw [getD_set_ne true him1];exact hm1) (by rw [getD_set_ne true him2];exact hm2) ?_) hs
    rw [Array.setIfInBounds_comm _ _ him1,Array.setIfInBounds_comm _ _ him2]
    exact h'
def makesB (ops:Array Oper) (m d:Nat):Bool:=match ops[m]? with|some o=>o.dst == some d && o.guard.isNone && o.after.isEmpty|none=>false
def blindB (ops:Array Oper) (m d:Nat):Bool:=(List.range m).all fun i=>match ops[i]? with|some o => !(o.looksAt ops).contains d && o.dst != some d|none=>true
def lexTwoB (md:Region.Mode) (ops:Array Oper) (m d1 d2:Nat):Bool :=
 Region.noSelect ops && decide (m+2<ops.size) && Region.sinkB md ops (m+2) && Region.chainB md ops (m+2) && Region.waitsFor md ops (m+2) m && Region.waitsFor md ops (m+2) (m+1) &&
 makesB ops m d1 && makesB ops (m+1) d2 && blindB ops m d1 && blindB ops m d2 &&
 lexHeadA md ops (m+2) (ops.size-(m+2)) m 0 (((Array.replicate ops.size false).setIfInBounds m true).setIfInBounds (m+1) true)
theorem makes_of {m d:Nat} {zs:Array Value} {T:TypeId} (h:makesB ops m d=true)
  (hrun:∀ (a:Act) (w:World),(execOp a.eval ((ops[m]?).getD default)).run P w=.ok (.value (.pointer (some ⟨w.heap.size,0,none⟩))) (w.alloc (.cells zs T))) :
  ∃ o,Makes P ops m d zs T o:=by
 unfold makesB at h
 cases ho:ops[m]? with
 | none=>rw [ho] at h;cases h
 | some o =>
  rw [ho] at h hrun
  simp only [Bool.and_eq_true,beq_iff_eq,Option.isNone_iff_eq_none,Array.isEmpty_iff] at h
  exact ⟨o,ho,h.1.1,h.1.2,h.2,hrun⟩
theorem blind_of {m d:Nat} (h:blindB ops m d=true) (i:Nat) (o:Oper) (hi:i<m) (ho:ops[i]? = some o):d ∉ o.looksAt ops∧o.dst≠some d:=by
 have h1:=List.all_eq_true.1 h i (List.mem_range.2 hi)
 rw [ho] at h1
 simp only [Bool.and_eq_true,Bool.not_eq_true',bne_iff_ne,ne_eq] at h1
 refine ⟨fun hd => ?_,h1.2⟩
 rw [List.contains_iff_mem.2 hd] at h1
 simp at h1
theorem wp_region_two {id:Nat} {Q:Exit→Act→World→Prop} {a:Act} {w:World} {l:List Oper} (m d1 d2:Nat) (z1 z2:Array Value) (T1 T2:TypeId) (hm:P.follows .mixedOrders=true)
  (hB:lexTwoB .any l.toArray m d1 d2=true)
  (hrun1:∀ (a:Act) (w:World),(execOp a.eval ((l[m]?).getD default)).run P w=.ok (.value (.pointer (some ⟨w.heap.size,0,none⟩))) (w.alloc (.cells z1 T1)))
  (hrun2:∀ (a:Act) (w:World),(execOp a.eval ((l[m+1]?).getD default)).run P w=.ok (.value (.pointer (some ⟨w.heap.size,0,none⟩))) (w.alloc (.cells z2 T2)))
  (h:wpS P l.toArray (fun w'=>∃ p:Regrown,w'=grow (redrawn w p.d) p.os)
   (fun a'=>(∀ p q r:Regrown,wpList P l.toArray Q (l.drop (m+2)) ((a'.put (some d1) (.pointer (some ⟨w.heap.size+p.os.size,0,none⟩))).put (some d2) (.pointer (some ⟨w.heap.size+p.os.size+1+q.os.size,0,none⟩)))
     (grow (redrawn ((grow (redrawn ((grow (redrawn w p.d) p.os).alloc (.cells z1 T1)) q.d) q.os).alloc (.cells z2 T2)) r.d) r.os)) ∧
    (∀ p q r:Regrown,wpList P l.toArray Q (l.drop (m+2)) ((a'.put (some d2) (.pointer (some ⟨w.heap.size+p.os.size,0,none⟩))).put (some d1) (.pointer (some ⟨w.heap.size+p.os.size+1+q.os.size,0,none⟩)))
     (grow (redrawn ((grow (redrawn ((grow (redrawn w p.d) p.os).alloc (.cells z2 T2)) q.d) q.os).alloc (.cells z1 T1)) r.d) r.os))) (l.take m) a) :
  (Code.region id l.toArray true).wp P Q a w:=by
 simp only [lexTwoB,Bool.and_eq_true,decide_eq_true_eq] at hB
 obtain ⟨⟨⟨⟨⟨⟨⟨⟨⟨⟨hsel,hn⟩,hs⟩,hc⟩,hwt1⟩,hwt2⟩,hmb1⟩,hmb2⟩,hbl1⟩,hbl2⟩,hlex⟩:=hB
 obtain ⟨o1,k1⟩:=makes_of (P:=P) (zs:=z1) (T:=T1) hmb1 (by simpa using hrun1)
 obtain ⟨o2,k2⟩:=makes_of (P:=P) (zs:=z2) (T:=T2) hmb2 (by simpa using hrun2)
 have hn':m+2<l.length:=by simpa using hn
 have htl:(l.take m).length=m:=by simp;omega
 have hdl:(l.drop (m+2)).length=l.toArray.size-(m+2):=by simp
 have inv0:HeadInv .any l.toArray (m+2) (((Array.replicate l.toArray.size false).setIfInBounds m true).setIfInBounds (m+1) true):=by
  refine ⟨by simp,fun j oj hj hl e he hb => ?_,fun t ht _ => ?_⟩
  ·by_cases hj2:m+1=j
   ·subst hj2
    rw [k2.at_] at hj
    injection hj with hj
    subst hj
    rw [k2.after] at he
    simp at he
   ·by_cases hj1:m=j
    ·subst hj1
     rw [k1.at_] at hj
     injection hj with hj
     subst hj
     rw [k1.after] at he
     simp at he
    ·rw [getD_set_ne false hj2,getD_set_ne false hj1,getD_replicate_false] at hl
     cases hl
  ·rw [getD_set_ne true (by omega),getD_set_ne true (by omega)]
   exact getD_in (by simpa using (by assumption:t<l.toArray.size)) (getD_replicate_false _ _)
 have H:=headS_lex (md:=.any) (n:=m+2) (m:=m) (g:=l.toArray.size-(m+2)) hsel hs hc hn (by omega) (l.take m) 0 _ a (fun j hj=>by
  have hj':j<m:=by rw [htl] at hj;exact hj
  simp [hj']) (by simpa using htl) inv0 (by rw [htl];exact hlex) h
 refine wp_region_any hm ?_
 have hCc:∀ w1 w2:World,(∃ p:Regrown,w1=grow (redrawn w p.d) p.os)→Below w1.heap.size w1 w2→∃ p:Regrown,w2=grow (redrawn w p.d) p.os:=by
  rintro w1 w2 ⟨p,rfl⟩ hb
  exact regrown_of_below ((below_regrown w p.d p.os).trans (hb.mono (below_regrown w p.d p.os).size))
 have hseq:∀ (listed:Array Bool) (a':Act) (w':World),Region.seqB .any l.toArray (l.toArray.size-(m+2)) (m+2) listed=true→wpList P l.toArray Q (l.drop (m+2)) a' w' →
   wpAny P .any l.toArray Q (l.toArray.size-(m+2)) listed a' w':=by
  intro listed a' w' hq hfin
  have:=wpAny_of_seq (md:=.any) (Q':=Q) (l.drop (m+2)) (m+2) listed a' w' (fun j=>by simp [List.getElem?_drop]) (by rw [hdl];exact hq) hfin
  rw [hdl] at this
  exact this
 have hread:∀ d,blindB l.toArray m d=true→∀ i o,(i<m+2∧i≠m∧i≠m+1)→l.toArray[i]? = some o→d ∉ o.looksAt l.toArray∧o.dst≠some d :=
  fun d hd i o hi ho=>blind_of hd i o (by omega) ho
 have:=two_pending (P:=P) (C:=fun w'=>∃ p:Regrown,w'=grow (redrawn w p.d) p.os) (Q':=Q) (g:=l.toArray.size-(m+2)) (n:=m+2)
  (L:=fun listed' a'=>Region.seqB .any l.toArray (l.toArray.size-(m+2)) (m+2) listed'=true∧((∀ p q r:Regrown,wpList P l.toArray Q (l.drop (m+2)) ((a'.put (some d1) (.pointer (some ⟨w.heap.size+p.os.size,0,none⟩))).put (some d2) (.pointer (some ⟨w.heap.size+p.os.size+1+q.os.size,0,none⟩)))
     (grow (redrawn ((grow (redrawn ((grow (redrawn w p.d) p.os).alloc (.cells z1 T1)) q.d) q.os).alloc (.cells z2 T2)) r.d) r.os)) ∧
    (∀ p q r:Regrown,wpList P l.toArray Q (l.drop (m+2)) ((a'.put (some d2) (.pointer (some ⟨w.heap.size+p.os.size,0,none⟩))).put (some d1) (.pointer (some ⟨w.heap.size+p.os.size+1+q.os.size,0,none⟩)))
     (grow (redrawn ((grow (redrawn ((grow (redrawn w p.d) p.os).alloc (.cells z2 T2)) q.d) q.os).alloc (.cells z1 T1)) r.d) r.os))))
  (Region.noSelect_spec hsel) (Nat.ne_of_lt (Nat.lt_succ_self m)) k1 k2 (hread d1 hbl1) (hread d2 hbl2) hwt1 hwt2 hCc
  (fun listed' a' hL j hj=>by
   obtain ⟨g',hg'⟩:∃ g',l.toArray.size-(m+2)=g'+1:=⟨l.toArray.size-(m+2)-1,by omega⟩
   have hq:=hL.1
   rw [hg'] at hq
   simp only [Region.seqB,Bool.and_eq_true,decide_eq_true_eq] at hq
   rw [hq.1] at hj
   simpa using hj)
  (fun listed a' w1 w2 w3 hw1 hw2 hw3 hL=>by
   obtain ⟨p,rfl⟩:=hw1
   obtain ⟨q,rfl⟩:=regrown_of_below hw2
   obtain ⟨r,rfl⟩:=regrown_of_below hw3
   refine hseq _ _ _ hL.1 ?_
   have hfin:=hL.2.1 p q r
   simpa [size_grow,redrawn] using hfin)
  (fun listed a' w1 w2 w3 hw1 hw2 hw3 hL=>by
   obtain ⟨p,rfl⟩:=hw1
   obtain ⟨q,rfl⟩:=regrown_of_below hw2
   obtain ⟨r,rfl⟩:=regrown_of_below hw3
   refine hseq _ _ _ hL.1 ?_
   have hfin:=hL.2.2 p q r
   simpa [size_grow,redrawn] using hfin)
  m (Array.replicate l.toArray.size false) a { w with drawn:=w.drawn+1 } ⟨⟨w.drawn+1,#[]⟩,by rw [grow_empty];rfl⟩
  (getD_in (by simp;omega) (getD_replicate_false _ _)) (getD_in (by simp;omega) (getD_replicate_false _ _)) (by rw [htl] at H;exact H)
 rw [show m+2+(l.toArray.size-(m+2))=l.toArray.size by omega] at this
 exact this
end
end Go.Proofs.YtddbmpbihpkabaaGreat

namespace Go.Proofs.YtddbmpbihpkabaaGreat
open Go.RowKit Go.Sort
attribute [go_sem] Nat.add_assoc Nat.add_pos_iff_pos_or_pos
@[go_sem] theorem lt_lit (a b c:Nat) (h:a<b):a<b+c:=Nat.lt_of_lt_of_le h (Nat.le_add_right _ _)
@[go_sem] theorem size_redrawn (W:World) (d:Nat):(redrawn W d).heap.size=W.heap.size:=rfl
@[go_sem] theorem cell_reg (W:World) (d:Nat) (os:Array Obj) (b o:Nat) (h:b<W.heap.size):(grow (redrawn W d) os).cell? ⟨b,o,none⟩=W.cell? ⟨b,o,none⟩ :=
 (below_regrown W d os).cell (p:=⟨b,o,none⟩) h
@[go_sem] theorem frozen_reg (W:World) (d:Nat) (os:Array Obj) (b o:Nat) (h:b<W.heap.size):(grow (redrawn W d) os).frozen? ⟨b,o,none⟩=W.frozen? ⟨b,o,none⟩ :=
 (below_regrown W d os).frozen (p:=⟨b,o,none⟩) h
@[go_sem] theorem set_reg (W:World) (d:Nat) (os:Array Obj) (b o:Nat) (v:Value) (h:b<W.heap.size) :
  (grow (redrawn W d) os).setCell ⟨b,o,none⟩ v=grow (redrawn (W.setCell ⟨b,o,none⟩ v) d) os:=by
 unfold World.setCell grow redrawn
 simp only
 congr 1
 exact modify_append_left _ _ _ _ h
theorem below_drewN {B:Nat} {a w:World} (h:Below B a w) (n:Nat):Below B a (w.drewN n):=⟨h.os,h.tape,h.output,h.size,h.block⟩
theorem below_reg {a W:World} (h:Below a.heap.size a W) (d:Nat) (os:Array Obj):Below a.heap.size a (grow (redrawn W d) os) :=
 h.trans ((below_regrown W d os).mono h.size)
theorem below_alloc {a W:World} (h:Below a.heap.size a W) (o:Obj):Below a.heap.size a (W.alloc o):=h.alloc h.size o
theorem cmono {P:Program} {f:FuncId} {args:Array Value} {w:World} {v:Value} {R:Ending→World→Prop}
  (k:∀ e w',e=.returned v∧Below w.heap.size w w'→R e w') (h:Calls P f args w fun e w'=>e=.returned v∧Below w.heap.size w w'):Calls P f args w R:=h.mono k
theorem cast0:((0:Nat):Int)=0:=rfl
theorem ret_int {k:IntKind} {a b:Int} (h:a=b):Ending.returned (.int k a)=.returned (.int k b):=by rw [h]
theorem ret_of {a b:Value} (h:a=b):Ending.returned a=.returned b:=by rw [h]
end Go.Proofs.YtddbmpbihpkabaaGreat

namespace Go.Proofs.YtddbmpbihpkabaaGreat
open Go Go.RowKit Go.ChangeShapes Go.WideShapes Go.ChangeAt
theorem trodAll_stays {H:Type} {enc:TypeId × Value→H} {P:Program} (hl:laidOutB P=true) {W W':World} (hb:Below W.heap.size W W') :
  ∀ (ts:List TypeId) (vs:List Value) (ds:List (DataW H)) (p:List MemPlace),(ts.all fun t=>P.readableRec t && decide (t<P.types.size))=true →
   DataW.TrodAll enc P W 0 (fun _=>true) true ts vs ds p→(∀ x∈p,x.block<W.heap.size)→DataW.TrodAll enc P W' 0 (fun b=>decide (b<W.heap.size)) true ts vs ds p
 | [],[],[],p,_,h,_=>h
 | t::ts,v::vs,d::ds,p,hr,h,hlt=>by
  obtain ⟨p1,q1,h1,h2,rfl⟩:=h
  simp only [List.all_cons,Bool.and_eq_true,decide_eq_true_eq] at hr
  obtain ⟨⟨hr1,hr2⟩,hr3⟩:=hr
  exact ⟨p1,q1,Below.trod hl hr1 hr2 h1 hb (fun x hx=>hlt x (List.mem_append_left _ hx)),trodAll_stays hl hb ts vs ds q1 hr3 h2 (fun x hx=>hlt x (List.mem_append_right _ hx)),rfl⟩
 | [],[],_::_,_,_,h,_=>h.elim
 | [],_::_,_,_,_,h,_=>h.elim
 | _::_,[],_,_,_,h,_=>h.elim
 | _::_,_::_,[],_,_,h,_=>h.elim
theorem law_post {H:Type} {enc:TypeId × Value→H} {P:Program} {f:Func} {s:ChangeSpec} {W W':World} {args:Array Value} {ds gs:List (DataW H)} {before:List MemPlace} {tb:TypeId}
  (hl:laidOutB P=true) (hr:(f.params.toList.all fun t=>P.readableRec t && decide (t<P.types.size))=true) (hres:f.resultTypes=#[tb]) (htb:P.underlying tb=some .bool) (hv:s.vars=[])
  (hW:DataW.Whole enc P f.params.toList s.vars false W args.toList ds gs before)
  (hs:(s.fn H ds).results=[.lit (.bool true)]∧(s.fn H ds).args=ds∧(s.fn H ds).vars=[]) (hb:Below W.heap.size W W') :
  s.post enc P f false true false false W args (.bool true) W':=by
 have hlt:∀ p∈before,p.block<W.heap.size:=fun p hp=>hW.lt p hp
 have hW':=hW
 obtain ⟨p,q,hA,hV,rfl,hfz,hnd⟩:=hW
 rw [hv] at hV
 cases gs with
 | cons g gs=>exact hV.elim
 | nil =>
  have hq:q=[]:=hV
  subst hq
  obtain ⟨s1,s2,s3⟩:=hs
  refine ⟨ds,[],p++[],[],p,[],hW',?_,?_,?_,World.keptBut_mono (fun x hx=>⟨hx,.inr (.inl (by simpa using hx))⟩) (hb.frame (·∈p++[])),fun h=>by cases h⟩
  ·rw [hres,List.append_nil,s1]
   exact trodAll_cons_mk (shut_bool htb true) trodAll_mk0
  ·rw [List.append_nil,s2]
   exact trodAll_stays hl hb _ _ _ _ hr hA (fun x hx=>hlt x (by simpa using hx))
  ·rw [hv,List.append_nil,s3]
   rfl
end Go.Proofs.YtddbmpbihpkabaaGreat

namespace Go.Proofs.YtddbmpbihpkabaaGreat
open Go Go.RowKit
namespace Sx
def gl:Nat:=0
def Gd (w:World):Prop:=True
theorem gd_size {w:World} (h:Gd w):gl≤w.heap.size:=Nat.zero_le _
theorem gd_keep {w w':World} (hs:w.heap.size≤w'.heap.size) (hb:∀ b,b<gl→w'.heap[b]? = w.heap[b]?) (h:Gd w):Gd w':=trivial
end Sx
end Go.Proofs.YtddbmpbihpkabaaGreat
