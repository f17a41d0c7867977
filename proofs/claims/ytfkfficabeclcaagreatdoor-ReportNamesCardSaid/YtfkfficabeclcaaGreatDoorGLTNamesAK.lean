import Derived.Test.YtfkfficabeclcaaGreatDoorGLTNamesAJ
import Derived.WalkKit
import Derived.Lib.Hide
import Derived.BigQuiet
import Derived.Lib.QuietBelow
import Derived.ProofKit
import Derived.OpenShut
import Derived.Carry
import Derived.Deep.Slices
import Derived.Deep.Strs
import Derived.ChangeSame
import Derived.ChangeKeysEq
import Derived.Test.YtfkfficabeclcaaGreatDoorProg
set_option linter.all false
namespace Go.Proofs.YtfkfficabeclcaaGreatDoor
open Go Go.RowKit Go.Sort
section
variable {P:Program} {ops:Array Oper} {md:Region.Mode} {C:World→Prop}
def Kept (w w':World):Prop:=Below w.heap.size w w'
theorem kept_of {P:Program} {f:FuncId} {args:Array Value} {w:World} {v:Value} (h:Calls P f args w fun e w'=>e=.returned v∧Below w.heap.size w w') :
  Calls P f args w fun e w'=>e=.returned v∧Kept w w':=h
def sUpon (P:Program) (w:World) (v:Value):Result Next→Prop
 | .ok (.value u) w'=>w'=w∧u=v
 | .ok .skip w'=>w'=w∧v=undef
 | .ok (.enter f args) w'=>w'=w∧Calls P f args w (fun e w''=>e=.returned v∧Kept w w'')
 | _=>False
def sAt (P:Program) (o:Oper) (a:Act) (w:World) (v:Value):Prop:=sUpon P w v ((execOp a.eval o).run P w)
def sq (P:Program) (o:Oper) (a:Act) (C:World→Prop) (next:Act→Prop):Prop:=∃ v,(∀ w,C w→sAt P o a w v)∧next (a.put o.dst v)
attribute [go_sem] sq sAt sUpon
def wpS (P:Program) (ops:Array Oper) (C:World→Prop) (Q:Act→Prop):List Oper→Act→Prop
 | [],a=>Q a
 | o::rest,a=>if Region.wanted o (yielded ops a.tmps) then sq P o a C (wpS P ops C Q rest) else wpS P ops C Q rest (a.put o.dst undef)
theorem wpS_nil {Q:Act→Prop} {a:Act} (h:Q a):wpS P ops C Q [] a:=h
theorem wpS_step {Q:Act→Prop} {a:Act} {o:Oper} {rest:List Oper}
  (h:∀ K:Act→Prop,(∀ a,wpS P ops C Q rest a→K a)→if Region.wanted o (yielded ops a.tmps) then sq P o a C K else K (a.put o.dst undef)):wpS P ops C Q (o::rest) a :=
 h _ (fun _ h=>h)
def sOp (P:Program) (ops:Array Oper) (C:World→Prop) (i:Nat) (K:Act→Prop) (a:Act):Prop :=
 match ops[i]? with
 | none=>K a
 | some o=>if Region.wanted o (yielded ops a.tmps) then sq P o a C K else K (a.put o.dst undef)
theorem sq_mono {o:Oper} {a:Act} {K K':Act→Prop} (h:∀ a,K a→K' a) (hh:sq P o a C K):sq P o a C K' :=
 let ⟨v,h1,h2⟩:=hh
 ⟨v,h1,h _ h2⟩
theorem sOp_mono {i:Nat} {a:Act} {K K':Act→Prop} (h:∀ a,K a→K' a) (hh:sOp P ops C i K a):sOp P ops C i K' a:=by
 unfold sOp at *
 split
 ·exact h _ (by simpa [*] using hh)
 ·rename_i o ho
  simp only [ho] at hh
  split
  ·rename_i hw;simp only [hw,if_true] at hh;exact sq_mono h hh
  ·rename_i hw;simp only [hw] at hh;exact h _ hh
def YieldsS (P:Program) (ops:Array Oper) (C:World→Prop) (o:Oper) (v:Value) (a:Act):Prop :=
 (Region.wanted o (yielded ops a.tmps)=true∧∀ w,C w→sAt P o a w v) ∨
 (Region.wanted o (yielded ops a.tmps)=false∧v=undef)
theorem YieldsS.sOp {i:Nat} {o:Oper} {v:Value} {a:Act} (hi:ops[i]? = some o) (hy:YieldsS P ops C o v a) {K:Act→Prop} (h:K (a.put o.dst v)):sOp P ops C i K a:=by
 unfold Proofs.YtfkfficabeclcaaGreatDoor.sOp
 simp only [hi]
 rcases hy with ⟨hw,hv⟩|⟨hw,rfl⟩
 ·simp only [hw,if_true];exact ⟨v,hv,h⟩
 ·simp only [hw,Bool.false_eq_true,if_false];exact h
theorem YieldsS.of_same {o:Oper} {v:Value} {a a':Act} (hy:YieldsS P ops C o v a) (he:execOp a'.eval o=execOp a.eval o)
  (hw:Region.wanted o (yielded ops a'.tmps)=Region.wanted o (yielded ops a.tmps)):YieldsS P ops C o v a':=by
 unfold YieldsS sAt at *
 rw [he,hw]
 exact hy
theorem yieldsS_of_sOp {i:Nat} {o:Oper} {a:Act} {K:Act→Prop} (hi:ops[i]? = some o) (h:sOp P ops C i K a):∃ v,YieldsS P ops C o v a∧K (a.put o.dst v):=by
 unfold sOp at h
 simp only [hi] at h
 by_cases hw:Region.wanted o (yielded ops a.tmps)=true
 ·simp only [hw,if_true] at h
  obtain ⟨v,h1,h2⟩:=h
  exact ⟨v,.inl ⟨hw,h1⟩,h2⟩
 ·simp only [hw] at h
  exact ⟨undef,.inr ⟨by simpa using hw,rfl⟩,h⟩
theorem sOp_put {j:Nat} {oi oj:Oper} {v:Value} (hj:ops[j]? = some oj) (hap:oi.apart ops oj=true)
  (hsi:∀ cs b,oi.op≠.select cs b) (hsj:∀ cs b,oj.op≠.select cs b) {K:Act→Prop} {a:Act}
  (hy:YieldsS P ops C oi v a) (h:sOp P ops C j K (a.put oi.dst v)) :
  sOp P ops C j (fun a'=>YieldsS P ops C oi v a'∧K (a'.put oi.dst v)) a:=by
 obtain ⟨h1,h2,h3⟩:=Oper.apart_spec hap
 have keep:∀ (a:Act),YieldsS P ops C oi v a→∀ u,YieldsS P ops C oi v (a.put oj.dst u):=fun a hy u =>
  hy.of_same (execOp_put oi hsi a oj.dst u h3) (wanted_put oi a oj.dst u h3)
 obtain ⟨u,hyj,hK⟩:=yieldsS_of_sOp hj h
 have hyj':YieldsS P ops C oj u a:=hyj.of_same (execOp_put oj hsj a oi.dst v h1).symm (wanted_put oj a oi.dst v h1).symm
 exact hyj'.sOp hj ⟨keep a hy u,by rw [← Act.put_comm a v u h2];exact hK⟩
theorem wpOp_of_sOp {i:Nat} {a:Act} {K:Act→Prop} {K':Act→World→Prop} {Q':Exit→Act→World→Prop} {w:World} {D:World→Prop}
  (hDC:∀ w,D w→C w) (hD:∀ w w',D w→Below w.heap.size w w'→D w') (hw0:D w) (h:∀ a w',D w'→K a→K' a w') (hh:sOp P ops C i K a):wpOp P ops Q' i K' a w:=by
 unfold sOp at hh
 unfold wpOp
 split
 ·rename_i ho;simp only [ho] at hh;exact h _ _ hw0 hh
 ·rename_i o ho
  simp only [ho] at hh
  split
  ·rename_i hw
   simp only [hw,if_true] at hh
   refine .inl ?_
   obtain ⟨v,h1,h2⟩:=hh
   have h3:=h1 w (hDC w hw0)
   unfold sAt at h3
   unfold Oper.wp
   generalize (execOp a.eval o).run P w=r at *
   cases r with
   | ok n w' =>
    cases n<;>simp only [sUpon] at h3<;>simp only [Oper.upon]
    case value u =>
     obtain ⟨e1,e2⟩:=h3
     rw [e1,e2]
     exact h _ _ hw0 h2
    case skip =>
     obtain ⟨e1,e2⟩:=h3
     rw [e1,← e2]
     exact h _ _ hw0 h2
    case enter f args =>
     obtain ⟨e1,hc⟩:=h3
     rw [e1]
     exact hc.mono fun e w'' ⟨he,hw''⟩=>by subst he;exact h _ _ (hD _ _ hw0 hw'') h2
   | halt x w'=>simp only [sUpon] at h3
  ·rename_i hw;simp only [hw] at hh;exact h _ _ hw0 hh
def headS (P:Program) (md:Region.Mode) (ops:Array Oper) (C:World→Prop) (n:Nat) (L:Array Bool→Act→Prop):Nat→Array Bool→Act→Prop
 | 0,listed,a=>L listed a
 | f+1,listed,a =>
  Region.ready md ops listed≠[]∧∀ i∈Region.ready md ops listed,i<n∧sOp P ops C i (headS P md ops C n L f (listed.setIfInBounds i true)) a
theorem headS_first {n i:Nat} {oi:Oper} {v:Value} {L:Array Bool→Act→Prop} (hi:ops[i]? = some oi) (hsel:∀ (j:Nat) (o:Oper) cs b,ops[j]? = some o→o.op≠.select cs b)
  (hs:Region.sinkB md ops n=true) (hc:Region.chainB md ops n=true) (hn:n<ops.size) (hin:i<n)
  (hdone:∀ listed a,L listed a→∀ j∈Region.ready md ops listed,n≤j) :
  ∀ (f:Nat) (listed:Array Bool) (a:Act),HeadInv md ops n listed →
   (∀ j oj,ops[j]? = some oj→j≠i→listed.getD j true=false→(∀ e∈oj.after,Region.binds md e=true→e.on≠i)→oi.apart ops oj=true) →
   i∈Region.ready md ops listed→YieldsS P ops C oi v a →
   headS P md ops C n L f (listed.setIfInBounds i true) (a.put oi.dst v)→headS P md ops C n L (f+1) listed a:=by
 intro f
 induction f with
 | zero =>
  intro listed a inv _ hr hy H
  have hun:=(mem_ready.1 hr).1
  refine ⟨fun h=>(by rw [h] at hr;cases hr),fun j hj => ?_⟩
  have hjn:j<n:=by
   rcases Nat.lt_or_ge j n with h|h
   ·exact h
   ·exact absurd hj (tail_waits hs hc hn inv _ i rfl hin hun j h)
  refine ⟨hjn,?_⟩
  by_cases hji:j=i
  ·subst hji;exact hy.sOp hi H
  ·have:=hdone _ _ H j (ready_mono hj hji)
   omega
 | succ f ih =>
  intro listed a inv hfree hr hy H
  have hun:=(mem_ready.1 hr).1
  refine ⟨fun h=>(by rw [h] at hr;cases hr),fun j hj => ?_⟩
  have hjn:j<n:=by
   rcases Nat.lt_or_ge j n with h|h
   ·exact h
   ·exact absurd hj (tail_waits hs hc hn inv _ i rfl hin hun j h)
  refine ⟨hjn,?_⟩
  by_cases hji:j=i
  ·subst hji;exact hy.sOp hi H
  ·have h1:=(H.2 j (ready_mono hj hji)).2
   obtain ⟨hjun,oj,hoj,hall⟩:=mem_ready.1 hj
   have hnot:∀ e∈oj.after,Region.binds md e=true→e.on≠i:=fun e he hb heq=>by
    have h1:=hall e he hb
    rw [heq,getD_both hun] at h1
    cases h1
   have h2:=sOp_put hoj (hfree j oj hoj hji hjun hnot) (fun cs b=>hsel i oi cs b hi) (fun cs b=>hsel j oj cs b hoj) hy h1
   have hfree':∀ k ok,ops[k]? = some ok→k≠i→(listed.setIfInBounds j true).getD k true=false →
     (∀ e∈ok.after,Region.binds md e=true→e.on≠i)→oi.apart ops ok=true:=fun k ok hk hki hun hno=>by
    refine hfree k ok hk hki ?_ hno
    by_cases hjk:j=k
    ·subst hjk;exact hjun
    ·rw [getD_set_ne true hjk] at hun;exact hun
   refine sOp_mono (fun a' h3=>ih (listed.setIfInBounds j true) a' (inv.set hj hjn) hfree' (ready_mono hr (Ne.symm hji)) h3.1 ?_) h2
   rw [Array.setIfInBounds_comm _ _ hji]
   exact h3.2
def lexHeadA (md:Region.Mode) (ops:Array Oper) (n g:Nat):Nat→Nat→Array Bool→Bool
 | 0,_,listed=>Region.seqB md ops g n listed
 | f+1,k,listed=>(Region.ready md ops listed).contains k && Region.free md ops listed k && lexHeadA md ops n g f (k+1) (listed.setIfInBounds k true)
theorem headS_lex {n m g:Nat} {Lq:Act→Prop} (hsel:Region.noSelect ops=true) (hs:Region.sinkB md ops n=true) (hc:Region.chainB md ops n=true) (hn:n<ops.size) (hmn:m≤n) :
  ∀ (l:List Oper) (k:Nat) (listed:Array Bool) (a:Act),(∀ j,j<l.length→l[j]? = ops[k+j]?)→k+l.length=m→HeadInv md ops n listed →
  lexHeadA md ops n g l.length k listed=true→wpS P ops C Lq l a →
  headS P md ops C n (fun listed' a'=>Region.seqB md ops g n listed'=true∧Lq a') l.length listed a
 | [],k,listed,a,_,_,_,hB,h=>⟨by simpa [lexHeadA] using hB,h⟩
 | o::l,k,listed,a,hl,hk,inv,hB,h=>by
  have h0:ops[k]? = some o:=by simpa using (hl 0 (by simp)).symm
  simp only [List.length_cons,lexHeadA,Bool.and_eq_true] at hB
  obtain ⟨⟨hr,hf⟩,hB'⟩:=hB
  have hkn:k<n:=by simp only [List.length_cons] at hk;omega
  have hr':k∈Region.ready md ops listed:=by simpa using hr
  have hst:sOp P ops C k (wpS P ops C Lq l) a:=by unfold sOp;simp only [h0];exact h
  obtain ⟨v,hy,hK⟩:=yieldsS_of_sOp h0 hst
  exact headS_first h0 (Region.noSelect_spec hsel) hs hc hn hkn (fun listed' a' hL=>seqB_ready hL.1) l.length listed a inv (Region.free_spec h0 hf) hr' hy
   (headS_lex hsel hs hc hn hmn l (k+1) _ _ (fun j hj=>by have:=hl (j+1) (by simp;omega);simpa [Nat.add_assoc,Nat.add_comm 1 j] using this) (by simp only [List.length_cons] at hk;omega) (inv.set hr' hkn) hB' hK)
theorem sOp_over {i d:Nat} {v:Value} {a:Act} {K:Act→Prop} (hsel:∀ (j:Nat) (o:Oper) cs b,ops[j]? = some o→o.op≠.select cs b)
  (hread:∀ o,ops[i]? = some o→d ∉ o.looksAt ops∧o.dst≠some d) (h:sOp P ops C i K a) :
  sOp P ops C i (fun a''=>∃ a',a''=a'.put (some d) v∧K a') (a.put (some d) v):=by
 unfold sOp at h
 split at h
 ·rename_i ho;unfold sOp;simp only [ho];exact ⟨_,rfl,h⟩
 ·rename_i o ho
  obtain ⟨h1,h2⟩:=hread o ho
  have hl:∀ e,some d=some e→e ∉ o.looksAt ops:=fun e he=>by injection he with he;subst he;exact h1
  have h':sOp P ops C i K a:=by unfold sOp;simp only [ho];exact h
  obtain ⟨u,hy,hK⟩:=yieldsS_of_sOp ho h'
  have hy':YieldsS P ops C o u (a.put (some d) v):=hy.of_same (execOp_put o (fun cs b=>hsel i o cs b ho) a (some d) v hl) (wanted_put o a (some d) v hl)
  exact hy'.sOp ho ⟨_,(Act.put_comm a v u (fun e he=>by injection he with he;subst he;exact h2)),hK⟩
theorem any_of_headS {n m d g:Nat} {v:Value} {L:Array Bool→Act→Prop} {Q':Exit→Act→World→Prop} {D:World→Prop}
  (hsel:∀ (j:Nat) (o:Oper) cs b,ops[j]? = some o→o.op≠.select cs b)
  (hread:∀ i o,i≠m→i<n→ops[i]? = some o→d ∉ o.looksAt ops∧o.dst≠some d)
  (hDC:∀ w,D w→C w) (hD:∀ w w',D w→Below w.heap.size w w'→D w')
  (hL:∀ listed a w,D w→L listed a→wpAny P md ops Q' g listed (a.put (some d) v) w) :
  ∀ (f:Nat) (listed:Array Bool) (a:Act) (w:World),D w→listed.getD m true=true→headS P md ops C n L f listed a→wpAny P md ops Q' (f+g) listed (a.put (some d) v) w
 | 0,listed,a,w,hw,_,h=>by rw [Nat.zero_add];exact hL _ _ _ hw h
 | f+1,listed,a,w,hw,hm,h=>by
  rw [show f+1+g=(f+g)+1 by omega]
  refine ⟨fun h0=>absurd h0 h.1,fun i hi => ?_⟩
  have him:i≠m:=fun e=>by
   have:=(mem_ready.1 hi).1
   rw [e,hm] at this
   cases this
  obtain ⟨hin,hs⟩:=h.2 i hi
  refine wpOp_of_sOp hDC hD hw (fun a'' w' hw' h' => ?_) (sOp_over (v:=v) hsel (fun o ho=>hread i o him hin ho) hs)
  obtain ⟨a',rfl,hK⟩:=h'
  exact any_of_headS hsel hread hDC hD hL f _ a' w' hw' (by rw [getD_set_ne true him];exact hm) hK
theorem any_with_alloc {n m d g:Nat} {zs:Array Value} {T:TypeId} {L:Array Bool→Act→Prop} {Q':Exit→Act→World→Prop} {oA:Oper}
  (hsel:∀ (j:Nat) (o:Oper) cs b,ops[j]? = some o→o.op≠.select cs b)
  (hA:ops[m]? = some oA) (hdst:oA.dst=some d) (hguard:oA.guard=none) (hafter:oA.after=#[]) (hmn:m<n)
  (hrun:∀ (a:Act) (w:World),(execOp a.eval oA).run P w=.ok (.value (.pointer (some ⟨w.heap.size,0,none⟩))) (w.alloc (.cells zs T)))
  (hread:∀ i o,i≠m→i<n→ops[i]? = some o→d ∉ o.looksAt ops∧o.dst≠some d)
  (hwait:Region.waitsFor md ops n m=true)
  (hC:∀ w w',C w→Below w.heap.size w w'→C w')
  (hone:∀ listed a,L listed a→∀ j∈Region.ready md ops listed,j=n)
  (hL:∀ listed a w w',C w→Below (w.alloc (.cells zs T)).heap.size (w.alloc (.cells zs T)) w'→L listed a→wpAny P md ops Q' g listed (a.put (some d) (.pointer (some ⟨w.heap.size,0,none⟩))) w') :
  ∀ (f:Nat) (listed:Array Bool) (a:Act) (w:World),C w→listed.getD m true=false→headS P md ops C n L f (listed.setIfInBounds m true) a→wpAny P md ops Q' (f+1+g) listed a w:=by
 have hready:∀ listed:Array Bool,listed.getD m true=false→m∈Region.ready md ops listed:=fun listed h =>
  mem_ready.2 ⟨h,oA,hA,fun e he=>by rw [hafter] at he;simp at he⟩
 have hmake:∀ (f:Nat) (listed:Array Bool) (a:Act) (w:World),C w→listed.getD m true=false→headS P md ops C n L f (listed.setIfInBounds m true) a →
   wpOp P ops Q' m (wpAny P md ops Q' (f+g) (listed.setIfInBounds m true)) a w:=by
  intro f listed a w hw hm h
  have hwant:Region.wanted oA (yielded ops a.tmps)=true:=by simp [Region.wanted,hguard]
  unfold wpOp
  simp only [hA,hwant,if_true]
  refine .inl ?_
  unfold Oper.wp
  rw [hrun a w]
  simp only [Oper.upon,hdst]
  have hb:Below w.heap.size w (w.alloc (.cells zs T)):=(Below.refl _ _).alloc (Nat.le_refl _) _
  refine any_of_headS (C:=C) (D:=fun w'=>Below (w.alloc (.cells zs T)).heap.size (w.alloc (.cells zs T)) w') hsel hread
   (fun w' h'=>hC w w' hw (hb.trans (h'.mono (by simp)))) (fun w1 w2 h1 h2=>h1.trans (h2.mono h1.size)) (fun l' a' w' hw' hl=>hL l' a' w w' hw hw' hl)
   f _ a _ (Below.refl _ _) ?_ h
  have hlt:m<listed.size:=by
   rcases Nat.lt_or_ge m listed.size with h'|h'
   ·exact h'
   ·simp [Array.getElem?_eq_none h'] at hm
  simp [hlt]
 intro f
 induction f with
 | zero =>
  intro listed a w hw hm h
  rw [show 0+1+g=(0+g)+1 by omega]
  refine ⟨fun h0=>(by have:=hready listed hm;rw [h0] at this;cases this),fun i hi => ?_⟩
  by_cases him:i=m
  ·subst him;exact hmake 0 listed a w hw hm h
  ·have:=hone _ _ h i (ready_mono hi him)
   subst this
   obtain ⟨oj,hoj,e,he,hb,hon⟩:=Region.waitsFor_spec hwait
   obtain ⟨_,o',ho',hall⟩:=mem_ready.1 hi
   have:oj=o':=Option.some.inj (hoj.symm.trans ho')
   subst this
   have h2:=hall e he hb
   rw [hon,getD_both hm] at h2
   cases h2
 | succ f ih =>
  intro listed a w hw hm h
  rw [show f+1+1+g=(f+1+g)+1 by omega]
  refine ⟨fun h0=>(by have:=hready listed hm;rw [h0] at this;cases this),fun i hi => ?_⟩
  by_cases him:i=m
  ·subst him;exact hmake (f+1) listed a w hw hm h
  ·obtain ⟨hin,hs⟩:=h.2 i (ready_mono hi him)
   refine wpOp_of_sOp (D:=C) (fun _ h=>h) hC hw (fun a' w' hw' h'=>ih (listed.setIfInBounds i true) a' w' hw' (by rw [getD_set_ne true him];exact hm) ?_) hs
   rw [Array.setIfInBounds_comm _ _ him]
   exact h'
def lexAllocB (md:Region.Mode) (ops:Array Oper) (m d:Nat):Bool :=
 Region.noSelect ops && decide (m+1<ops.size) && Region.sinkB md ops (m+1) && Region.chainB md ops (m+1) && Region.waitsFor md ops (m+1) m &&
 ((List.range (m+1)).all fun i=>i == m || match ops[i]? with|some o => !(o.looksAt ops).contains d && o.dst != some d|none=>true) &&
 (match ops[m]? with|some o=>o.dst == some d && o.guard.isNone && o.after.isEmpty|none=>false) &&
 lexHeadA md ops (m+1) (ops.size-(m+1)) m 0 ((Array.replicate ops.size false).setIfInBounds m true)
theorem wp_region_alloc {id:Nat} {Q:Exit→Act→World→Prop} {a:Act} {w:World} {l:List Oper} (m d:Nat) (zs:Array Value) (T:TypeId) (oA:Oper) (hA:l[m]? = some oA) (hm:P.follows .mixedOrders=true)
  (hB:lexAllocB .any l.toArray m d=true)
  (hrun:∀ (a:Act) (w:World),(execOp a.eval oA).run P w=.ok (.value (.pointer (some ⟨w.heap.size,0,none⟩))) (w.alloc (.cells zs T)))
  (h:wpS P l.toArray (fun w'=>∃ p:Regrown,w'=grow (redrawn w p.d) p.os)
   (fun a'=>∀ p q:Regrown,wpList P l.toArray Q (l.drop (m+1)) (a'.put (some d) (.pointer (some ⟨w.heap.size+p.os.size,0,none⟩))) (grow (redrawn ((grow (redrawn w p.d) p.os).alloc (.cells zs T)) q.d) q.os)) (l.take m) a) :
  (Code.region id l.toArray true).wp P Q a w:=by
 simp only [lexAllocB,Bool.and_eq_true,decide_eq_true_eq] at hB
 obtain ⟨⟨⟨⟨⟨⟨⟨hsel,hn⟩,hs⟩,hc⟩,hwt⟩,hrd⟩,hal⟩,hlex⟩:=hB
 have hA':l.toArray[m]? = some oA:=by simpa using hA
 rw [hA'] at hal
 simp only [Bool.and_eq_true,beq_iff_eq,Option.isNone_iff_eq_none,Array.isEmpty_iff] at hal
 obtain ⟨⟨hdst,hguard⟩,hafter⟩:=hal
 have hn':m+1<l.length:=by simpa using hn
 have htl:(l.take m).length=m:=by simp;omega
 have hdl:(l.drop (m+1)).length=l.toArray.size-(m+1):=by simp
 have inv0:HeadInv .any l.toArray (m+1) ((Array.replicate l.toArray.size false).setIfInBounds m true):=by
  refine ⟨by simp,fun j oj hj hl e he hb => ?_,fun t ht _ => ?_⟩
  ·by_cases hjm:m=j
   ·subst hjm
    rw [hA'] at hj
    injection hj with hj
    subst hj
    rw [hafter] at he
    simp at he
   ·rw [getD_set_ne false hjm,getD_replicate_false] at hl
    cases hl
  ·rw [getD_set_ne true (by omega)]
   exact getD_in (by simpa using (by assumption:t<l.toArray.size)) (getD_replicate_false _ _)
 have H:=headS_lex (md:=.any) (n:=m+1) (m:=m) (g:=l.toArray.size-(m+1)) hsel hs hc hn (by omega) (l.take m) 0 _ a (fun j hj=>by
  have hj':j<m:=by rw [htl] at hj;exact hj
  simp [hj']) (by simpa using htl) inv0 (by rw [htl];exact hlex) h
 refine wp_region_any hm ?_
 have hread:∀ i o,i≠m→i<m+1→l.toArray[i]? = some o→d ∉ o.looksAt l.toArray∧o.dst≠some d:=by
  intro i o him hi ho
  have h1:=List.all_eq_true.1 hrd i (List.mem_range.2 hi)
  rw [ho] at h1
  simp only [Bool.or_eq_true,beq_iff_eq,him,false_or,Bool.and_eq_true,Bool.not_eq_true',bne_iff_ne,ne_eq] at h1
  refine ⟨fun hd => ?_,h1.2⟩
  rw [List.contains_iff_mem.2 hd] at h1
  simp at h1
 have hCc:∀ w1 w2:World,(∃ p:Regrown,w1=grow (redrawn w p.d) p.os)→Below w1.heap.size w1 w2→∃ p:Regrown,w2=grow (redrawn w p.d) p.os:=by
  rintro w1 w2 ⟨p,rfl⟩ hb
  exact regrown_of_below ((below_regrown w p.d p.os).trans (hb.mono (below_regrown w p.d p.os).size))
 have:=any_with_alloc (P:=P) (C:=fun w'=>∃ p:Regrown,w'=grow (redrawn w p.d) p.os) (Q':=Q) (g:=l.toArray.size-(m+1)) (zs:=zs) (T:=T)
  (L:=fun listed' a'=>Region.seqB .any l.toArray (l.toArray.size-(m+1)) (m+1) listed'=true∧∀ p q:Regrown,wpList P l.toArray Q (l.drop (m+1)) (a'.put (some d) (.pointer (some ⟨w.heap.size+p.os.size,0,none⟩))) (grow (redrawn ((grow (redrawn w p.d) p.os).alloc (.cells zs T)) q.d) q.os))
  (Region.noSelect_spec hsel) hA' hdst hguard hafter (Nat.lt_succ_self m) hrun hread hwt hCc
  (fun listed' a' hL j hj=>by
   have hg:∃ g',l.toArray.size-(m+1)=g'+1:=⟨l.toArray.size-(m+1)-1,by omega⟩
   obtain ⟨g',hg'⟩:=hg
   have hq:=hL.1
   rw [hg'] at hq
   simp only [Region.seqB,Bool.and_eq_true,decide_eq_true_eq] at hq
   rw [hq.1] at hj
   simpa using hj)
  (fun listed a' w1 w2 hw1 hw2 hL=>by
   obtain ⟨p,rfl⟩:=hw1
   obtain ⟨q,rfl⟩:=regrown_of_below hw2
   have hfin:=hL.2 p q
   have:=wpAny_of_seq (md:=.any) (Q':=Q) (l.drop (m+1)) (m+1) listed _ _ (fun j=>by simp [List.getElem?_drop]) (by rw [hdl];exact hL.1) hfin
   rw [hdl] at this
   simpa [size_grow,redrawn] using this)
  m (Array.replicate l.toArray.size false) a { w with drawn:=w.drawn+1 } ⟨⟨w.drawn+1,#[]⟩,by rw [grow_empty];rfl⟩
  (getD_in (by simp;omega) (getD_replicate_false _ _)) (by rw [htl] at H;exact H)
 rw [show m+1+(l.toArray.size-(m+1))=l.toArray.size by omega] at this
 exact this
theorem wp_region_alloc_at {id:Nat} {Q:Exit→Act→World→Prop} {a:Act} {w:World} {l:List Oper} (m d:Nat) (zs:Array Value) (T:TypeId) (hm:P.follows .mixedOrders=true)
  (hB:lexAllocB .any l.toArray m d=true)
  (hrun:∀ (a:Act) (w:World),(execOp a.eval ((l[m]?).getD default)).run P w=.ok (.value (.pointer (some ⟨w.heap.size,0,none⟩))) (w.alloc (.cells zs T)))
  (h:wpS P l.toArray (fun w'=>∃ p:Regrown,w'=grow (redrawn w p.d) p.os)
   (fun a'=>∀ p q:Regrown,wpList P l.toArray Q (l.drop (m+1)) (a'.put (some d) (.pointer (some ⟨w.heap.size+p.os.size,0,none⟩))) (grow (redrawn ((grow (redrawn w p.d) p.os).alloc (.cells zs T)) q.d) q.os)) (l.take m) a) :
  (Code.region id l.toArray true).wp P Q a w:=by
 have hlt:m<l.length:=by
  have hB':=hB
  simp only [lexAllocB,Bool.and_eq_true,decide_eq_true_eq] at hB'
  have:=hB'.1.1.1.1.1.1.2
  simp at this
  omega
 refine wp_region_alloc m d zs T l[m] (by simp [hlt]) hm hB ?_ h
 intro a w
 have:=hrun a w
 rw [List.getElem?_eq_getElem hlt] at this
 exact this
end
end Go.Proofs.YtfkfficabeclcaaGreatDoor

namespace Go.Proofs.YtfkfficabeclcaaGreatDoor
open Go Go.RowKit Go.Sort
section
variable {P:Program} {ops:Array Oper} {md:Region.Mode} {C:World→Prop}
def Unseen (P:Program) (ops:Array Oper) (C:World→Prop) (good:Nat→Prop) (ov:Act→Act):Prop :=
 ∀ (i:Nat) (K:Act→Prop) (a:Act),good i→sOp P ops C i K a→sOp P ops C i (fun a''=>∃ a',a''=ov a'∧K a') (ov a)
theorem Unseen.put {good:Nat→Prop} {ov:Act→Act} {d:Nat} {v:Value} (hsel:∀ (j:Nat) (o:Oper) cs b,ops[j]? = some o→o.op≠.select cs b)
  (hov:Unseen P ops C good ov) (hread:∀ i o,good i→ops[i]? = some o→d ∉ o.looksAt ops∧o.dst≠some d) :
  Unseen P ops C good (fun a=>(ov a).put (some d) v):=fun i K a hg h =>
 sOp_mono (fun _ h'=>by
  obtain ⟨a',rfl,a2,rfl,hK⟩:=h'
  exact ⟨a2,rfl,hK⟩) (sOp_over (v:=v) hsel (fun o ho=>hread i o hg ho) (hov i K a hg h))
structure Makes (P:Program) (ops:Array Oper) (m d:Nat) (zs:Array Value) (T:TypeId) (o:Oper):Prop where
 at_:ops[m]? = some o
 dst:o.dst=some d
 guard:o.guard=none
 after:o.after=#[]
 run:∀ (a:Act) (w:World),(execOp a.eval o).run P w=.ok (.value (.pointer (some ⟨w.heap.size,0,none⟩))) (w.alloc (.cells zs T))
theorem Makes.ready {m d:Nat} {zs:Array Value} {T:TypeId} {o:Oper} (h:Makes P ops m d zs T o) {listed:Array Bool} (hm:listed.getD m true=false):m∈Region.ready md ops listed :=
 mem_ready.2 ⟨hm,o,h.at_,fun e he=>by rw [h.after] at he;simp at he⟩
theorem Makes.wp {m d:Nat} {zs:Array Value} {T:TypeId} {o:Oper} (h:Makes P ops m d zs T o) {a:Act} {w:World} {K:Act→World→Prop} {Q':Exit→Act→World→Prop}
  (hK:K (a.put (some d) (.pointer (some ⟨w.heap.size,0,none⟩))) (w.alloc (.cells zs T))):wpOp P ops Q' m K a w:=by
 have hwant:Region.wanted o (yielded ops a.tmps)=true:=by simp [Region.wanted,h.guard]
 unfold wpOp
 simp only [h.at_,hwant,if_true]
 refine .inl ?_
 unfold Oper.wp
 rw [h.run a w]
 simp only [Oper.upon,h.dst]
 exact hK
end
end Go.Proofs.YtfkfficabeclcaaGreatDoor

namespace Go.Proofs.YtfkfficabeclcaaGreatDoor
open Go.RowKit Go.Sort
attribute [go_sem] Nat.add_assoc Nat.add_pos_iff_pos_or_pos
@[go_sem] theorem lt_lit (a b c:Nat) (h:a<b):a<b+c:=Nat.lt_of_lt_of_le h (Nat.le_add_right _ _)
@[go_sem] theorem size_redrawn (W:World) (d:Nat):(redrawn W d).heap.size=W.heap.size:=rfl
@[go_sem] theorem cell_reg (W:World) (d:Nat) (os:Array Obj) (b o:Nat) (h:b<W.heap.size):(grow (redrawn W d) os).cell? ⟨b,o,none⟩=W.cell? ⟨b,o,none⟩ :=
 (below_regrown W d os).cell (p:=⟨b,o,none⟩) h
@[go_sem] theorem frozen_reg (W:World) (d:Nat) (os:Array Obj) (b o:Nat) (h:b<W.heap.size):(grow (redrawn W d) os).frozen? ⟨b,o,none⟩=W.frozen? ⟨b,o,none⟩ :=
 (below_regrown W d os).frozen (p:=⟨b,o,none⟩) h
@[go_sem] theorem set_reg (W:World) (d:Nat) (os:Array Obj) (b o:Nat) (v:Value) (h:b<W.heap.size) :
  (grow (redrawn W d) os).setCell ⟨b,o,none⟩ v=grow (redrawn (W.setCell ⟨b,o,none⟩ v) d) os:=by
 unfold World.setCell grow redrawn
 simp only
 congr 1
 exact modify_append_left _ _ _ _ h
theorem below_drewN {B:Nat} {a w:World} (h:Below B a w) (n:Nat):Below B a (w.drewN n):=⟨h.os,h.tape,h.output,h.size,h.block⟩
theorem below_reg {a W:World} (h:Below a.heap.size a W) (d:Nat) (os:Array Obj):Below a.heap.size a (grow (redrawn W d) os) :=
 h.trans ((below_regrown W d os).mono h.size)
theorem below_alloc {a W:World} (h:Below a.heap.size a W) (o:Obj):Below a.heap.size a (W.alloc o):=h.alloc h.size o
theorem cmono {P:Program} {f:FuncId} {args:Array Value} {w:World} {v:Value} {R:Ending→World→Prop}
  (k:∀ e w',e=.returned v∧Below w.heap.size w w'→R e w') (h:Calls P f args w fun e w'=>e=.returned v∧Below w.heap.size w w'):Calls P f args w R:=h.mono k
theorem cast0:((0:Nat):Int)=0:=rfl
theorem ret_int {k:IntKind} {a b:Int} (h:a=b):Ending.returned (.int k a)=.returned (.int k b):=by rw [h]
theorem ret_of {a b:Value} (h:a=b):Ending.returned a=.returned b:=by rw [h]
end Go.Proofs.YtfkfficabeclcaaGreatDoor

namespace Go.Proofs.YtfkfficabeclcaaGreatDoor
open Go Go.RowKit Go.ChangeShapes Go.WideShapes Go.ChangeAt
theorem trodAll_stays {H:Type} {enc:TypeId × Value→H} {P:Program} (hl:laidOutB P=true) {W W':World} (hb:Below W.heap.size W W') :
  ∀ (ts:List TypeId) (vs:List Value) (ds:List (DataW H)) (p:List MemPlace),(ts.all fun t=>P.readableRec t && decide (t<P.types.size))=true →
   DataW.TrodAll enc P W 0 (fun _=>true) true ts vs ds p→(∀ x∈p,x.block<W.heap.size)→DataW.TrodAll enc P W' 0 (fun b=>decide (b<W.heap.size)) true ts vs ds p
 | [],[],[],p,_,h,_=>h
 | t::ts,v::vs,d::ds,p,hr,h,hlt=>by
  obtain ⟨p1,q1,h1,h2,rfl⟩:=h
  simp only [List.all_cons,Bool.and_eq_true,decide_eq_true_eq] at hr
  obtain ⟨⟨hr1,hr2⟩,hr3⟩:=hr
  exact ⟨p1,q1,Below.trod hl hr1 hr2 h1 hb (fun x hx=>hlt x (List.mem_append_left _ hx)),trodAll_stays hl hb ts vs ds q1 hr3 h2 (fun x hx=>hlt x (List.mem_append_right _ hx)),rfl⟩
 | [],[],_::_,_,_,h,_=>h.elim
 | [],_::_,_,_,_,h,_=>h.elim
 | _::_,[],_,_,_,h,_=>h.elim
 | _::_,_::_,[],_,_,h,_=>h.elim
theorem law_post {H:Type} {enc:TypeId × Value→H} {P:Program} {f:Func} {s:ChangeSpec} {W W':World} {args:Array Value} {ds gs:List (DataW H)} {before:List MemPlace} {tb:TypeId}
  (hl:laidOutB P=true) (hr:(f.params.toList.all fun t=>P.readableRec t && decide (t<P.types.size))=true) (hres:f.resultTypes=#[tb]) (htb:P.underlying tb=some .bool) (hv:s.vars=[])
  (hW:DataW.Whole enc P f.params.toList s.vars false W args.toList ds gs before)
  (hs:(s.fn H ds).results=[.lit (.bool true)]∧(s.fn H ds).args=ds∧(s.fn H ds).vars=[]) (hb:Below W.heap.size W W') :
  s.post enc P f false true false false W args (.bool true) W':=by
 have hlt:∀ p∈before,p.block<W.heap.size:=fun p hp=>hW.lt p hp
 have hW':=hW
 obtain ⟨p,q,hA,hV,rfl,hfz,hnd⟩:=hW
 rw [hv] at hV
 cases gs with
 | cons g gs=>exact hV.elim
 | nil =>
  have hq:q=[]:=hV
  subst hq
  obtain ⟨s1,s2,s3⟩:=hs
  refine ⟨ds,[],p++[],[],p,[],hW',?_,?_,?_,World.keptBut_mono (fun x hx=>⟨hx,.inr (.inl (by simpa using hx))⟩) (hb.frame (·∈p++[])),fun h=>by cases h⟩
  ·rw [hres,List.append_nil,s1]
   exact trodAll_cons_mk (shut_bool htb true) trodAll_mk0
  ·rw [List.append_nil,s2]
   exact trodAll_stays hl hb _ _ _ _ hr hA (fun x hx=>hlt x (by simpa using hx))
  ·rw [hv,List.append_nil,s3]
   rfl
end Go.Proofs.YtfkfficabeclcaaGreatDoor

namespace Go.Proofs.YtfkfficabeclcaaGreatDoor
open Go Go.RowKit Go.ChangeShapes Go.WideShapes Go.Deep Go.Proofs.YtfkfficabeclcaaGreatDoor.Sx
namespace Sx
inductive Sh where
 | int (k:IntKind)
 | bool
 | str
 | sl (ek:Nat) (e:Sh)
 | st (fs:Sh)
 | f0
 | fc (n:Nat) (h t:Sh)
section
variable {H:Type} {enc:TypeId × Value→H} {P:Program} {w:World} {base:Nat} {spare:Nat→Bool} {held:Bool}
end
theorem law_of_fn {P:Program} {f:Nat} {args:List DC} {x:Value} (hcall:∀ (vs:Array Value) (w:World),(callFunc f vs).run P w=.ok (.enter f vs) w) (h:FnOK P f args (.c (.one (.v x)))) {w:World} {vs:List Value} (hg:Gd w) (hvs:DCsR w (fun _=>False) args vs) :
  Calls P f vs.toArray w fun e w'=>e=.returned x∧Below w.heap.size w w':=by
 rcases h w (fun _=>False) vs ⟨fun _ h=>h.elim,hg,fun _ h=>h.elim⟩ hvs with ⟨g,hg,hc⟩|⟨u,hg,_⟩
 ·have:g=f:=by
   rw [hcall] at hg
   injection hg with h1
   injection h1 with h1
   exact h1.symm
  subst this
  refine hc.mono ?_
  rintro e w' ⟨u,rfl,hu,hb⟩
  have hu:Rep w' _ (.v x) u:=hu
  cases hu
  exact ⟨rfl,hb⟩
 ·rw [hcall] at hg
  injection hg with h1
  cases h1
end Sx
end Go.Proofs.YtfkfficabeclcaaGreatDoor

namespace Go.Proofs.YtfkfficabeclcaaGreatDoor
open Go Go.RowKit
namespace Sx
def Ty:List (Nat × TD):=[(2,.int .i64),
 (3,.int .i64),
 (4,.bool),
 (5,.int .u8),
 (9,.sc (.v (.string "".toUTF8))),
 (12,.int .u64),
 (21,.int .i32),
 (23,.int .i64),
 (24,.st 2 [.v (.int .i64 0),.v (.int .i64 0)] [(0,1,false),(1,1,false)]),
 (25,.st 2 [.v (.int .i64 0),.v (.int .i64 0)] [(0,1,false),(1,1,false)]),
 (26,.sl 4 true [.v (.int .i64 0),.v (.int .i64 0),.v (.int .i64 0),.v (.int .i64 0)]),
 (27,.st 6 [.v (.int .i64 0),.v (.int .i64 0),.v (.int .i64 0),.v (.int .i64 0),.v (.int .i64 0),.nil 4] [(0,1,false),(1,1,false),(2,1,false),(3,2,true),(5,1,false)]),
 (28,.st 6 [.v (.int .i64 0),.v (.int .i64 0),.v (.int .i64 0),.v (.int .i64 0),.v (.int .i64 0),.nil 4] [(0,1,false),(1,1,false),(2,1,false),(3,2,true),(5,1,false)]),
 (30,.st 4 [.v (.int .i64 0),.v (.int .i64 0),.v (.int .i64 0),.v (.int .i64 0)] [(0,2,true),(2,1,false),(3,1,false)]),
 (31,.st 4 [.v (.int .i64 0),.v (.int .i64 0),.v (.int .i64 0),.v (.int .i64 0)] [(0,2,true),(2,1,false),(3,1,false)]),
 (32,.sl 6 true [.v (.int .i64 0),.v (.int .i64 0),.v (.int .i64 0),.v (.int .i64 0),.v (.int .i64 0),.nil 4]),
 (37,.sl 3 true [.v (.int .i64 0),.v (.int .i64 0),.v (.int .i64 0)]),
 (38,.st 1 [.nil 3] [(0,1,false)]),
 (39,.st 1 [.nil 3] [(0,1,false)]),
 (40,.st 3 [.v (.int .i64 0),.v (.int .i64 0),.nil 3] [(0,2,true),(2,1,true)]),
 (41,.st 3 [.v (.int .i64 0),.v (.int .i64 0),.nil 3] [(0,2,true),(2,1,true)]),
 (42,.st 3 [.v (.int .i64 0),.v (.int .i64 0),.v (.int .i64 0)] [(0,1,false),(1,1,false),(2,1,false)]),
 (43,.st 3 [.v (.int .i64 0),.v (.int .i64 0),.v (.int .i64 0)] [(0,1,false),(1,1,false),(2,1,false)]),
 (45,.sl 1 false [.v (.int .u8 0)]),
 (53,.st 7 [.v (.int .u8 0),.v (.int .i64 0),.v (.int .i64 0),.v (.int .i64 0),.v (.int .i64 0),.v (.int .i64 0),.v (.int .i64 0)] [(0,1,false),(1,3,true),(4,1,false),(5,2,true)]),
 (54,.st 7 [.v (.int .u8 0),.v (.int .i64 0),.v (.int .i64 0),.v (.int .i64 0),.v (.int .i64 0),.v (.int .i64 0),.v (.int .i64 0)] [(0,1,false),(1,3,true),(4,1,false),(5,2,true)]),
 (58,.sl 7 true [.v (.int .u8 0),.v (.int .i64 0),.v (.int .i64 0),.v (.int .i64 0),.v (.int .i64 0),.v (.int .i64 0),.v (.int .i64 0)]),
 (63,.sl 1 false [.v (.string "".toUTF8)]),
 (74,.sl 1 false [.v (.int .i64 0)]),
 (121,.int .u64),
 (122,.st 2 [.v (.int .i64 0),.v (.int .u64 0)] [(0,1,false),(1,1,false)]),
 (123,.st 2 [.v (.int .i64 0),.v (.int .u64 0)] [(0,1,false),(1,1,false)]),
 (125,.ar 2 [.v (.int .i64 0),.v (.int .i64 0)] 2 1 false),
 (126,.ar 4 [.v (.int .i64 0),.v (.int .i64 0),.v (.int .i64 0),.v (.int .i64 0)] 2 2 true),
 (152,.int .u64),
 (158,.st 2 [.v (.pointer none),.nil 1] [(0,1,false),(1,1,false)]),
 (159,.st 2 [.v (.pointer none),.nil 1] [(0,1,false),(1,1,false)]),
 (185,.sl 1 false [.v (.int .i64 0)]),
 (201,.st 3 [.v (.bool false),.v (.int .u64 0),.v (.int .u64 0)] [(0,1,false),(1,1,false),(2,1,false)]),
 (202,.st 3 [.v (.bool false),.v (.int .u64 0),.v (.int .u64 0)] [(0,1,false),(1,1,false),(2,1,false)]),
 (205,.int .i64),
 (212,.int .u32),
 (213,.sl 2 true [.v (.int .i64 0),.v (.int .i64 0)]),
 (229,.st 3 [.v (.bool false),.v (.int .u64 0),.v (.int .u64 0)] [(0,1,false),(1,1,false),(2,1,false)]),
 (230,.st 3 [.v (.bool false),.v (.int .u64 0),.v (.int .u64 0)] [(0,1,false),(1,1,false),(2,1,false)]),
 (236,.ar 24 [.v (.int .u8 0),.v (.int .u8 0),.v (.int .u8 0),.v (.int .u8 0),.v (.int .u8 0),.v (.int .u8 0),.v (.int .u8 0),.v (.int .u8 0),.v (.int .u8 0),.v (.int .u8 0),.v (.int .u8 0),.v (.int .u8 0),.v (.int .u8 0),.v (.int .u8 0),.v (.int .u8 0),.v (.int .u8 0),.v (.int .u8 0),.v (.int .u8 0),.v (.int .u8 0),.v (.int .u8 0),.v (.int .u8 0),.v (.int .u8 0),.v (.int .u8 0),.v (.int .u8 0)] 24 1 false),
 (244,.int .i64),
 (254,.int .u64),
 (283,.ar 20 [.v (.int .u64 0),.v (.int .u64 0),.v (.int .u64 0),.v (.int .u64 0),.v (.int .u64 0),.v (.int .u64 0),.v (.int .u64 0),.v (.int .u64 0),.v (.int .u64 0),.v (.int .u64 0),.v (.int .u64 0),.v (.int .u64 0),.v (.int .u64 0),.v (.int .u64 0),.v (.int .u64 0),.v (.int .u64 0),.v (.int .u64 0),.v (.int .u64 0),.v (.int .u64 0),.v (.int .u64 0)] 20 1 false),
 (299,.st 2 [.v (.int .u8 0),.v (.int .u8 0)] [(0,1,false),(1,1,false)]),
 (300,.st 2 [.v (.int .u8 0),.v (.int .u8 0)] [(0,1,false),(1,1,false)]),
 (301,.ar 32 [.v (.int .u8 0),.v (.int .u8 0),.v (.int .u8 0),.v (.int .u8 0),.v (.int .u8 0),.v (.int .u8 0),.v (.int .u8 0),.v (.int .u8 0),.v (.int .u8 0),.v (.int .u8 0),.v (.int .u8 0),.v (.int .u8 0),.v (.int .u8 0),.v (.int .u8 0),.v (.int .u8 0),.v (.int .u8 0),.v (.int .u8 0),.v (.int .u8 0),.v (.int .u8 0),.v (.int .u8 0),.v (.int .u8 0),.v (.int .u8 0),.v (.int .u8 0),.v (.int .u8 0),.v (.int .u8 0),.v (.int .u8 0),.v (.int .u8 0),.v (.int .u8 0),.v (.int .u8 0),.v (.int .u8 0),.v (.int .u8 0),.v (.int .u8 0)] 16 2 true),
 (305,.st 1 [.v (.string "".toUTF8)] [(0,1,false)]),
 (306,.st 1 [.v (.string "".toUTF8)] [(0,1,false)]),
 (313,.ar 32 [.v (.int .u8 0),.v (.int .u8 0),.v (.int .u8 0),.v (.int .u8 0),.v (.int .u8 0),.v (.int .u8 0),.v (.int .u8 0),.v (.int .u8 0),.v (.int .u8 0),.v (.int .u8 0),.v (.int .u8 0),.v (.int .u8 0),.v (.int .u8 0),.v (.int .u8 0),.v (.int .u8 0),.v (.int .u8 0),.v (.int .u8 0),.v (.int .u8 0),.v (.int .u8 0),.v (.int .u8 0),.v (.int .u8 0),.v (.int .u8 0),.v (.int .u8 0),.v (.int .u8 0),.v (.int .u8 0),.v (.int .u8 0),.v (.int .u8 0),.v (.int .u8 0),.v (.int .u8 0),.v (.int .u8 0),.v (.int .u8 0),.v (.int .u8 0)] 32 1 false),
 (314,.ar 64 [.v (.int .u8 0),.v (.int .u8 0),.v (.int .u8 0),.v (.int .u8 0),.v (.int .u8 0),.v (.int .u8 0),.v (.int .u8 0),.v (.int .u8 0),.v (.int .u8 0),.v (.int .u8 0),.v (.int .u8 0),.v (.int .u8 0),.v (.int .u8 0),.v (.int .u8 0),.v (.int .u8 0),.v (.int .u8 0),.v (.int .u8 0),.v (.int .u8 0),.v (.int .u8 0),.v (.int .u8 0),.v (.int .u8 0),.v (.int .u8 0),.v (.int .u8 0),.v (.int .u8 0),.v (.int .u8 0),.v (.int .u8 0),.v (.int .u8 0),.v (.int .u8 0),.v (.int .u8 0),.v (.int .u8 0),.v (.int .u8 0),.v (.int .u8 0),.v (.int .u8 0),.v (.int .u8 0),.v (.int .u8 0),.v (.int .u8 0),.v (.int .u8 0),.v (.int .u8 0),.v (.int .u8 0),.v (.int .u8 0),.v (.int .u8 0),.v (.int .u8 0),.v (.int .u8 0),.v (.int .u8 0),.v (.int .u8 0),.v (.int .u8 0),.v (.int .u8 0),.v (.int .u8 0),.v (.int .u8 0),.v (.int .u8 0),.v (.int .u8 0),.v (.int .u8 0),.v (.int .u8 0),.v (.int .u8 0),.v (.int .u8 0),.v (.int .u8 0),.v (.int .u8 0),.v (.int .u8 0),.v (.int .u8 0),.v (.int .u8 0),.v (.int .u8 0),.v (.int .u8 0),.v (.int .u8 0),.v (.int .u8 0)] 64 1 false),
 (318,.st 4 [.v (.pointer none),.v (.pointer none),.v (.pointer none),.v (.string "".toUTF8)] [(0,1,false),(1,1,false),(2,1,false),(3,1,false)])]
theorem ty_all:TysOK Tryz.prog Ty:=⟨⟨Tryz.sizeOf2,Tryz.isAgg2,⟨_,Tryz.zeroValue2,fun _ _=>⟨.v _ rfl (wfB_iff rfl),trivial⟩⟩,Tryz.underlying2⟩,
 ⟨Tryz.sizeOf3,Tryz.isAgg3,⟨_,Tryz.zeroValue3,fun _ _=>⟨.v _ rfl (wfB_iff rfl),trivial⟩⟩,Tryz.underlying3⟩,
 ⟨Tryz.sizeOf4,Tryz.isAgg4,⟨_,Tryz.zeroValue4,fun _ _=>⟨.v _ rfl (wfB_iff rfl),trivial⟩⟩,Tryz.underlying4⟩,
 ⟨Tryz.sizeOf5,Tryz.isAgg5,⟨_,Tryz.zeroValue5,fun _ _=>⟨.v _ rfl (wfB_iff rfl),trivial⟩⟩,Tryz.underlying5⟩,
 ⟨Tryz.sizeOf9,Tryz.isAgg9,⟨_,Tryz.zeroValue9,fun _ _=>⟨.v _ rfl (wfB_iff rfl),trivial⟩⟩,trivial⟩,
 ⟨Tryz.sizeOf12,Tryz.isAgg12,⟨_,Tryz.zeroValue12,fun _ _=>⟨.v _ rfl (wfB_iff rfl),trivial⟩⟩,Tryz.underlying12⟩,
 ⟨Tryz.sizeOf21,Tryz.isAgg21,⟨_,Tryz.zeroValue21,fun _ _=>⟨.v _ rfl (wfB_iff rfl),trivial⟩⟩,Tryz.underlying21⟩,
 ⟨Tryz.sizeOf23,Tryz.isAgg23,⟨_,Tryz.zeroValue23,fun _ _=>⟨.v _ rfl (wfB_iff rfl),trivial⟩⟩,Tryz.underlying23⟩,
 ⟨Tryz.sizeOf24,Tryz.isAgg24,⟨_,Tryz.zeroValue24,fun _ _=>⟨.v _ rfl (wfB_iff rfl),.v _ rfl (wfB_iff rfl),trivial⟩⟩,st_ty Tryz.underlying24 rfl ⟨rfl,Tryz.sizeOf2,Tryz.isAgg2,rfl,Tryz.sizeOf2,Tryz.isAgg2,trivial⟩⟩,
 ⟨Tryz.sizeOf25,Tryz.isAgg25,⟨_,Tryz.zeroValue25,fun _ _=>⟨.v _ rfl (wfB_iff rfl),.v _ rfl (wfB_iff rfl),trivial⟩⟩,st_ty Tryz.underlying25 rfl ⟨rfl,Tryz.sizeOf2,Tryz.isAgg2,rfl,Tryz.sizeOf2,Tryz.isAgg2,trivial⟩⟩,
 ⟨Tryz.sizeOf26,Tryz.isAgg26,⟨_,Tryz.zeroValue26,fun _ _=>⟨.nl _,trivial⟩⟩,sl_ty Tryz.underlying26 Tryz.sizeOf31 Tryz.isAgg31 Tryz.zeroValue31 rfl (show Tryz.prog.info? 31=some Tryz.t31 by kernel_rfl) rfl rfl rfl (fun _ _=>⟨.v _ rfl (wfB_iff rfl),.v _ rfl (wfB_iff rfl),.v _ rfl (wfB_iff rfl),.v _ rfl (wfB_iff rfl),trivial⟩) rfl⟩,
 ⟨Tryz.sizeOf27,Tryz.isAgg27,⟨_,Tryz.zeroValue27,fun _ _=>⟨.v _ rfl (wfB_iff rfl),.v _ rfl (wfB_iff rfl),.v _ rfl (wfB_iff rfl),.v _ rfl (wfB_iff rfl),.v _ rfl (wfB_iff rfl),.nl _,trivial⟩⟩,st_ty Tryz.underlying27 rfl ⟨rfl,Tryz.sizeOf23,Tryz.isAgg23,rfl,Tryz.sizeOf3,Tryz.isAgg3,rfl,Tryz.sizeOf3,Tryz.isAgg3,rfl,Tryz.sizeOf25,Tryz.isAgg25,rfl,Tryz.sizeOf26,Tryz.isAgg26,trivial⟩⟩,
 ⟨Tryz.sizeOf28,Tryz.isAgg28,⟨_,Tryz.zeroValue28,fun _ _=>⟨.v _ rfl (wfB_iff rfl),.v _ rfl (wfB_iff rfl),.v _ rfl (wfB_iff rfl),.v _ rfl (wfB_iff rfl),.v _ rfl (wfB_iff rfl),.nl _,trivial⟩⟩,st_ty Tryz.underlying28 rfl ⟨rfl,Tryz.sizeOf23,Tryz.isAgg23,rfl,Tryz.sizeOf3,Tryz.isAgg3,rfl,Tryz.sizeOf3,Tryz.isAgg3,rfl,Tryz.sizeOf25,Tryz.isAgg25,rfl,Tryz.sizeOf26,Tryz.isAgg26,trivial⟩⟩,
 ⟨Tryz.sizeOf30,Tryz.isAgg30,⟨_,Tryz.zeroValue30,fun _ _=>⟨.v _ rfl (wfB_iff rfl),.v _ rfl (wfB_iff rfl),.v _ rfl (wfB_iff rfl),.v _ rfl (wfB_iff rfl),trivial⟩⟩,st_ty Tryz.underlying30 rfl ⟨rfl,Tryz.sizeOf25,Tryz.isAgg25,rfl,Tryz.sizeOf3,Tryz.isAgg3,rfl,Tryz.sizeOf3,Tryz.isAgg3,trivial⟩⟩,
 ⟨Tryz.sizeOf31,Tryz.isAgg31,⟨_,Tryz.zeroValue31,fun _ _=>⟨.v _ rfl (wfB_iff rfl),.v _ rfl (wfB_iff rfl),.v _ rfl (wfB_iff rfl),.v _ rfl (wfB_iff rfl),trivial⟩⟩,st_ty Tryz.underlying31 rfl ⟨rfl,Tryz.sizeOf25,Tryz.isAgg25,rfl,Tryz.sizeOf3,Tryz.isAgg3,rfl,Tryz.sizeOf3,Tryz.isAgg3,trivial⟩⟩,
 ⟨Tryz.sizeOf32,Tryz.isAgg32,⟨_,Tryz.zeroValue32,fun _ _=>⟨.nl _,trivial⟩⟩,sl_ty Tryz.underlying32 Tryz.sizeOf28 Tryz.isAgg28 Tryz.zeroValue28 rfl (show Tryz.prog.info? 28=some Tryz.t28 by kernel_rfl) rfl rfl rfl (fun _ _=>⟨.v _ rfl (wfB_iff rfl),.v _ rfl (wfB_iff rfl),.v _ rfl (wfB_iff rfl),.v _ rfl (wfB_iff rfl),.v _ rfl (wfB_iff rfl),.nl _,trivial⟩) rfl⟩,
 ⟨Tryz.sizeOf37,Tryz.isAgg37,⟨_,Tryz.zeroValue37,fun _ _=>⟨.nl _,trivial⟩⟩,sl_ty Tryz.underlying37 Tryz.sizeOf43 Tryz.isAgg43 Tryz.zeroValue43 rfl (show Tryz.prog.info? 43=some Tryz.t43 by kernel_rfl) rfl rfl rfl (fun _ _=>⟨.v _ rfl (wfB_iff rfl),.v _ rfl (wfB_iff rfl),.v _ rfl (wfB_iff rfl),trivial⟩) rfl⟩,
 ⟨Tryz.sizeOf38,Tryz.isAgg38,⟨_,Tryz.zeroValue38,fun _ _=>⟨.nl _,trivial⟩⟩,st_ty Tryz.underlying38 rfl ⟨rfl,Tryz.sizeOf37,Tryz.isAgg37,trivial⟩⟩,
 ⟨Tryz.sizeOf39,Tryz.isAgg39,⟨_,Tryz.zeroValue39,fun _ _=>⟨.nl _,trivial⟩⟩,st_ty Tryz.underlying39 rfl ⟨rfl,Tryz.sizeOf37,Tryz.isAgg37,trivial⟩⟩,
 ⟨Tryz.sizeOf40,Tryz.isAgg40,⟨_,Tryz.zeroValue40,fun _ _=>⟨.v _ rfl (wfB_iff rfl),.v _ rfl (wfB_iff rfl),.nl _,trivial⟩⟩,st_ty Tryz.underlying40 rfl ⟨rfl,Tryz.sizeOf25,Tryz.isAgg25,rfl,Tryz.sizeOf39,Tryz.isAgg39,trivial⟩⟩,
 ⟨Tryz.sizeOf41,Tryz.isAgg41,⟨_,Tryz.zeroValue41,fun _ _=>⟨.v _ rfl (wfB_iff rfl),.v _ rfl (wfB_iff rfl),.nl _,trivial⟩⟩,st_ty Tryz.underlying41 rfl ⟨rfl,Tryz.sizeOf25,Tryz.isAgg25,rfl,Tryz.sizeOf39,Tryz.isAgg39,trivial⟩⟩,
 ⟨Tryz.sizeOf42,Tryz.isAgg42,⟨_,Tryz.zeroValue42,fun _ _=>⟨.v _ rfl (wfB_iff rfl),.v _ rfl (wfB_iff rfl),.v _ rfl (wfB_iff rfl),trivial⟩⟩,st_ty Tryz.underlying42 rfl ⟨rfl,Tryz.sizeOf3,Tryz.isAgg3,rfl,Tryz.sizeOf2,Tryz.isAgg2,rfl,Tryz.sizeOf2,Tryz.isAgg2,trivial⟩⟩,
 ⟨Tryz.sizeOf43,Tryz.isAgg43,⟨_,Tryz.zeroValue43,fun _ _=>⟨.v _ rfl (wfB_iff rfl),.v _ rfl (wfB_iff rfl),.v _ rfl (wfB_iff rfl),trivial⟩⟩,st_ty Tryz.underlying43 rfl ⟨rfl,Tryz.sizeOf3,Tryz.isAgg3,rfl,Tryz.sizeOf2,Tryz.isAgg2,rfl,Tryz.sizeOf2,Tryz.isAgg2,trivial⟩⟩,
 ⟨Tryz.sizeOf45,Tryz.isAgg45,⟨_,Tryz.zeroValue45,fun _ _=>⟨.nl _,trivial⟩⟩,sl_ty Tryz.underlying45 Tryz.sizeOf5 Tryz.isAgg5 Tryz.zeroValue5 rfl (show Tryz.prog.info? 5=some Tryz.t5 by kernel_rfl) rfl rfl rfl (fun _ _=>⟨.v _ rfl (wfB_iff rfl),trivial⟩) rfl⟩,
 ⟨Tryz.sizeOf53,Tryz.isAgg53,⟨_,Tryz.zeroValue53,fun _ _=>⟨.v _ rfl (wfB_iff rfl),.v _ rfl (wfB_iff rfl),.v _ rfl (wfB_iff rfl),.v _ rfl (wfB_iff rfl),.v _ rfl (wfB_iff rfl),.v _ rfl (wfB_iff rfl),.v _ rfl (wfB_iff rfl),trivial⟩⟩,st_ty Tryz.underlying53 rfl ⟨rfl,Tryz.sizeOf5,Tryz.isAgg5,rfl,Tryz.sizeOf43,Tryz.isAgg43,rfl,Tryz.sizeOf3,Tryz.isAgg3,rfl,Tryz.sizeOf25,Tryz.isAgg25,trivial⟩⟩,
 ⟨Tryz.sizeOf54,Tryz.isAgg54,⟨_,Tryz.zeroValue54,fun _ _=>⟨.v _ rfl (wfB_iff rfl),.v _ rfl (wfB_iff rfl),.v _ rfl (wfB_iff rfl),.v _ rfl (wfB_iff rfl),.v _ rfl (wfB_iff rfl),.v _ rfl (wfB_iff rfl),.v _ rfl (wfB_iff rfl),trivial⟩⟩,st_ty Tryz.underlying54 rfl ⟨rfl,Tryz.sizeOf5,Tryz.isAgg5,rfl,Tryz.sizeOf43,Tryz.isAgg43,rfl,Tryz.sizeOf3,Tryz.isAgg3,rfl,Tryz.sizeOf25,Tryz.isAgg25,trivial⟩⟩,
 ⟨Tryz.sizeOf58,Tryz.isAgg58,⟨_,Tryz.zeroValue58,fun _ _=>⟨.nl _,trivial⟩⟩,sl_ty Tryz.underlying58 Tryz.sizeOf54 Tryz.isAgg54 Tryz.zeroValue54 rfl (show Tryz.prog.info? 54=some Tryz.t54 by kernel_rfl) rfl rfl rfl (fun _ _=>⟨.v _ rfl (wfB_iff rfl),.v _ rfl (wfB_iff rfl),.v _ rfl (wfB_iff rfl),.v _ rfl (wfB_iff rfl),.v _ rfl (wfB_iff rfl),.v _ rfl (wfB_iff rfl),.v _ rfl (wfB_iff rfl),trivial⟩) rfl⟩,
 ⟨Tryz.sizeOf63,Tryz.isAgg63,⟨_,Tryz.zeroValue63,fun _ _=>⟨.nl _,trivial⟩⟩,sl_ty Tryz.underlying63 Tryz.sizeOf9 Tryz.isAgg9 Tryz.zeroValue9 rfl (show Tryz.prog.info? 9=some Tryz.t9 by kernel_rfl) rfl rfl rfl (fun _ _=>⟨.v _ rfl (wfB_iff rfl),trivial⟩) rfl⟩,
 ⟨Tryz.sizeOf74,Tryz.isAgg74,⟨_,Tryz.zeroValue74,fun _ _=>⟨.nl _,trivial⟩⟩,sl_ty Tryz.underlying74 Tryz.sizeOf3 Tryz.isAgg3 Tryz.zeroValue3 rfl (show Tryz.prog.info? 3=some Tryz.t3 by kernel_rfl) rfl rfl rfl (fun _ _=>⟨.v _ rfl (wfB_iff rfl),trivial⟩) rfl⟩,
 ⟨Tryz.sizeOf121,Tryz.isAgg121,⟨_,Tryz.zeroValue121,fun _ _=>⟨.v _ rfl (wfB_iff rfl),trivial⟩⟩,Tryz.underlying121⟩,
 ⟨Tryz.sizeOf122,Tryz.isAgg122,⟨_,Tryz.zeroValue122,fun _ _=>⟨.v _ rfl (wfB_iff rfl),.v _ rfl (wfB_iff rfl),trivial⟩⟩,st_ty Tryz.underlying122 rfl ⟨rfl,Tryz.sizeOf2,Tryz.isAgg2,rfl,Tryz.sizeOf121,Tryz.isAgg121,trivial⟩⟩,
 ⟨Tryz.sizeOf123,Tryz.isAgg123,⟨_,Tryz.zeroValue123,fun _ _=>⟨.v _ rfl (wfB_iff rfl),.v _ rfl (wfB_iff rfl),trivial⟩⟩,st_ty Tryz.underlying123 rfl ⟨rfl,Tryz.sizeOf2,Tryz.isAgg2,rfl,Tryz.sizeOf121,Tryz.isAgg121,trivial⟩⟩,
 ⟨Tryz.sizeOf125,Tryz.isAgg125,⟨_,Tryz.zeroValue125,fun _ _=>⟨.v _ rfl (wfB_iff rfl),.v _ rfl (wfB_iff rfl),trivial⟩⟩,⟨_,Tryz.underlying125,Tryz.sizeOf2,Tryz.isAgg2⟩⟩,
 ⟨Tryz.sizeOf126,Tryz.isAgg126,⟨_,Tryz.zeroValue126,fun _ _=>⟨.v _ rfl (wfB_iff rfl),.v _ rfl (wfB_iff rfl),.v _ rfl (wfB_iff rfl),.v _ rfl (wfB_iff rfl),trivial⟩⟩,⟨_,Tryz.underlying126,Tryz.sizeOf125,Tryz.isAgg125⟩⟩,
 ⟨Tryz.sizeOf152,Tryz.isAgg152,⟨_,Tryz.zeroValue152,fun _ _=>⟨.v _ rfl (wfB_iff rfl),trivial⟩⟩,Tryz.underlying152⟩,
 ⟨Tryz.sizeOf158,Tryz.isAgg158,⟨_,Tryz.zeroValue158,fun _ _=>⟨.v _ rfl (wfB_iff rfl),.nl _,trivial⟩⟩,st_ty Tryz.underlying158 rfl ⟨rfl,Tryz.sizeOf157,Tryz.isAgg157,rfl,Tryz.sizeOf45,Tryz.isAgg45,trivial⟩⟩,
 ⟨Tryz.sizeOf159,Tryz.isAgg159,⟨_,Tryz.zeroValue159,fun _ _=>⟨.v _ rfl (wfB_iff rfl),.nl _,trivial⟩⟩,st_ty Tryz.underlying159 rfl ⟨rfl,Tryz.sizeOf157,Tryz.isAgg157,rfl,Tryz.sizeOf45,Tryz.isAgg45,trivial⟩⟩,
 ⟨Tryz.sizeOf185,Tryz.isAgg185,⟨_,Tryz.zeroValue185,fun _ _=>⟨.nl _,trivial⟩⟩,sl_ty Tryz.underlying185 Tryz.sizeOf23 Tryz.isAgg23 Tryz.zeroValue23 rfl (show Tryz.prog.info? 23=some Tryz.t23 by kernel_rfl) rfl rfl rfl (fun _ _=>⟨.v _ rfl (wfB_iff rfl),trivial⟩) rfl⟩,
 ⟨Tryz.sizeOf201,Tryz.isAgg201,⟨_,Tryz.zeroValue201,fun _ _=>⟨.v _ rfl (wfB_iff rfl),.v _ rfl (wfB_iff rfl),.v _ rfl (wfB_iff rfl),trivial⟩⟩,st_ty Tryz.underlying201 rfl ⟨rfl,Tryz.sizeOf4,Tryz.isAgg4,rfl,Tryz.sizeOf121,Tryz.isAgg121,rfl,Tryz.sizeOf121,Tryz.isAgg121,trivial⟩⟩,
 ⟨Tryz.sizeOf202,Tryz.isAgg202,⟨_,Tryz.zeroValue202,fun _ _=>⟨.v _ rfl (wfB_iff rfl),.v _ rfl (wfB_iff rfl),.v _ rfl (wfB_iff rfl),trivial⟩⟩,st_ty Tryz.underlying202 rfl ⟨rfl,Tryz.sizeOf4,Tryz.isAgg4,rfl,Tryz.sizeOf121,Tryz.isAgg121,rfl,Tryz.sizeOf121,Tryz.isAgg121,trivial⟩⟩,
 ⟨Tryz.sizeOf205,Tryz.isAgg205,⟨_,Tryz.zeroValue205,fun _ _=>⟨.v _ rfl (wfB_iff rfl),trivial⟩⟩,Tryz.underlying205⟩,
 ⟨Tryz.sizeOf212,Tryz.isAgg212,⟨_,Tryz.zeroValue212,fun _ _=>⟨.v _ rfl (wfB_iff rfl),trivial⟩⟩,Tryz.underlying212⟩,
 ⟨Tryz.sizeOf213,Tryz.isAgg213,⟨_,Tryz.zeroValue213,fun _ _=>⟨.nl _,trivial⟩⟩,sl_ty Tryz.underlying213 Tryz.sizeOf25 Tryz.isAgg25 Tryz.zeroValue25 rfl (show Tryz.prog.info? 25=some Tryz.t25 by kernel_rfl) rfl rfl rfl (fun _ _=>⟨.v _ rfl (wfB_iff rfl),.v _ rfl (wfB_iff rfl),trivial⟩) rfl⟩,
 ⟨Tryz.sizeOf229,Tryz.isAgg229,⟨_,Tryz.zeroValue229,fun _ _=>⟨.v _ rfl (wfB_iff rfl),.v _ rfl (wfB_iff rfl),.v _ rfl (wfB_iff rfl),trivial⟩⟩,st_ty Tryz.underlying229 rfl ⟨rfl,Tryz.sizeOf4,Tryz.isAgg4,rfl,Tryz.sizeOf121,Tryz.isAgg121,rfl,Tryz.sizeOf121,Tryz.isAgg121,trivial⟩⟩,
 ⟨Tryz.sizeOf230,Tryz.isAgg230,⟨_,Tryz.zeroValue230,fun _ _=>⟨.v _ rfl (wfB_iff rfl),.v _ rfl (wfB_iff rfl),.v _ rfl (wfB_iff rfl),trivial⟩⟩,st_ty Tryz.underlying230 rfl ⟨rfl,Tryz.sizeOf4,Tryz.isAgg4,rfl,Tryz.sizeOf121,Tryz.isAgg121,rfl,Tryz.sizeOf121,Tryz.isAgg121,trivial⟩⟩,
 ⟨Tryz.sizeOf236,Tryz.isAgg236,⟨_,Tryz.zeroValue236,fun _ _=>⟨.v _ rfl (wfB_iff rfl),.v _ rfl (wfB_iff rfl),.v _ rfl (wfB_iff rfl),.v _ rfl (wfB_iff rfl),.v _ rfl (wfB_iff rfl),.v _ rfl (wfB_iff rfl),.v _ rfl (wfB_iff rfl),.v _ rfl (wfB_iff rfl),.v _ rfl (wfB_iff rfl),.v _ rfl (wfB_iff rfl),.v _ rfl (wfB_iff rfl),.v _ rfl (wfB_iff rfl),.v _ rfl (wfB_iff rfl),.v _ rfl (wfB_iff rfl),.v _ rfl (wfB_iff rfl),.v _ rfl (wfB_iff rfl),.v _ rfl (wfB_iff rfl),.v _ rfl (wfB_iff rfl),.v _ rfl (wfB_iff rfl),.v _ rfl (wfB_iff rfl),.v _ rfl (wfB_iff rfl),.v _ rfl (wfB_iff rfl),.v _ rfl (wfB_iff rfl),.v _ rfl (wfB_iff rfl),trivial⟩⟩,⟨_,Tryz.underlying236,Tryz.sizeOf5,Tryz.isAgg5⟩⟩,
 ⟨Tryz.sizeOf244,Tryz.isAgg244,⟨_,Tryz.zeroValue244,fun _ _=>⟨.v _ rfl (wfB_iff rfl),trivial⟩⟩,Tryz.underlying244⟩,
 ⟨Tryz.sizeOf254,Tryz.isAgg254,⟨_,Tryz.zeroValue254,fun _ _=>⟨.v _ rfl (wfB_iff rfl),trivial⟩⟩,Tryz.underlying254⟩,
 ⟨Tryz.sizeOf283,Tryz.isAgg283,⟨_,Tryz.zeroValue283,fun _ _=>⟨.v _ rfl (wfB_iff rfl),.v _ rfl (wfB_iff rfl),.v _ rfl (wfB_iff rfl),.v _ rfl (wfB_iff rfl),.v _ rfl (wfB_iff rfl),.v _ rfl (wfB_iff rfl),.v _ rfl (wfB_iff rfl),.v _ rfl (wfB_iff rfl),.v _ rfl (wfB_iff rfl),.v _ rfl (wfB_iff rfl),.v _ rfl (wfB_iff rfl),.v _ rfl (wfB_iff rfl),.v _ rfl (wfB_iff rfl),.v _ rfl (wfB_iff rfl),.v _ rfl (wfB_iff rfl),.v _ rfl (wfB_iff rfl),.v _ rfl (wfB_iff rfl),.v _ rfl (wfB_iff rfl),.v _ rfl (wfB_iff rfl),.v _ rfl (wfB_iff rfl),trivial⟩⟩,⟨_,Tryz.underlying283,Tryz.sizeOf121,Tryz.isAgg121⟩⟩,
 ⟨Tryz.sizeOf299,Tryz.isAgg299,⟨_,Tryz.zeroValue299,fun _ _=>⟨.v _ rfl (wfB_iff rfl),.v _ rfl (wfB_iff rfl),trivial⟩⟩,st_ty Tryz.underlying299 rfl ⟨rfl,Tryz.sizeOf5,Tryz.isAgg5,rfl,Tryz.sizeOf5,Tryz.isAgg5,trivial⟩⟩,
 ⟨Tryz.sizeOf300,Tryz.isAgg300,⟨_,Tryz.zeroValue300,fun _ _=>⟨.v _ rfl (wfB_iff rfl),.v _ rfl (wfB_iff rfl),trivial⟩⟩,st_ty Tryz.underlying300 rfl ⟨rfl,Tryz.sizeOf5,Tryz.isAgg5,rfl,Tryz.sizeOf5,Tryz.isAgg5,trivial⟩⟩,
 ⟨Tryz.sizeOf301,Tryz.isAgg301,⟨_,Tryz.zeroValue301,fun _ _=>⟨.v _ rfl (wfB_iff rfl),.v _ rfl (wfB_iff rfl),.v _ rfl (wfB_iff rfl),.v _ rfl (wfB_iff rfl),.v _ rfl (wfB_iff rfl),.v _ rfl (wfB_iff rfl),.v _ rfl (wfB_iff rfl),.v _ rfl (wfB_iff rfl),.v _ rfl (wfB_iff rfl),.v _ rfl (wfB_iff rfl),.v _ rfl (wfB_iff rfl),.v _ rfl (wfB_iff rfl),.v _ rfl (wfB_iff rfl),.v _ rfl (wfB_iff rfl),.v _ rfl (wfB_iff rfl),.v _ rfl (wfB_iff rfl),.v _ rfl (wfB_iff rfl),.v _ rfl (wfB_iff rfl),.v _ rfl (wfB_iff rfl),.v _ rfl (wfB_iff rfl),.v _ rfl (wfB_iff rfl),.v _ rfl (wfB_iff rfl),.v _ rfl (wfB_iff rfl),.v _ rfl (wfB_iff rfl),.v _ rfl (wfB_iff rfl),.v _ rfl (wfB_iff rfl),.v _ rfl (wfB_iff rfl),.v _ rfl (wfB_iff rfl),.v _ rfl (wfB_iff rfl),.v _ rfl (wfB_iff rfl),.v _ rfl (wfB_iff rfl),.v _ rfl (wfB_iff rfl),trivial⟩⟩,⟨_,Tryz.underlying301,Tryz.sizeOf300,Tryz.isAgg300⟩⟩,
 ⟨Tryz.sizeOf305,Tryz.isAgg305,⟨_,Tryz.zeroValue305,fun _ _=>⟨.v _ rfl (wfB_iff rfl),trivial⟩⟩,st_ty Tryz.underlying305 rfl ⟨rfl,Tryz.sizeOf9,Tryz.isAgg9,trivial⟩⟩,
 ⟨Tryz.sizeOf306,Tryz.isAgg306,⟨_,Tryz.zeroValue306,fun _ _=>⟨.v _ rfl (wfB_iff rfl),trivial⟩⟩,st_ty Tryz.underlying306 rfl ⟨rfl,Tryz.sizeOf9,Tryz.isAgg9,trivial⟩⟩,
 ⟨Tryz.sizeOf313,Tryz.isAgg313,⟨_,Tryz.zeroValue313,fun _ _=>⟨.v _ rfl (wfB_iff rfl),.v _ rfl (wfB_iff rfl),.v _ rfl (wfB_iff rfl),.v _ rfl (wfB_iff rfl),.v _ rfl (wfB_iff rfl),.v _ rfl (wfB_iff rfl),.v _ rfl (wfB_iff rfl),.v _ rfl (wfB_iff rfl),.v _ rfl (wfB_iff rfl),.v _ rfl (wfB_iff rfl),.v _ rfl (wfB_iff rfl),.v _ rfl (wfB_iff rfl),.v _ rfl (wfB_iff rfl),.v _ rfl (wfB_iff rfl),.v _ rfl (wfB_iff rfl),.v _ rfl (wfB_iff rfl),.v _ rfl (wfB_iff rfl),.v _ rfl (wfB_iff rfl),.v _ rfl (wfB_iff rfl),.v _ rfl (wfB_iff rfl),.v _ rfl (wfB_iff rfl),.v _ rfl (wfB_iff rfl),.v _ rfl (wfB_iff rfl),.v _ rfl (wfB_iff rfl),.v _ rfl (wfB_iff rfl),.v _ rfl (wfB_iff rfl),.v _ rfl (wfB_iff rfl),.v _ rfl (wfB_iff rfl),.v _ rfl (wfB_iff rfl),.v _ rfl (wfB_iff rfl),.v _ rfl (wfB_iff rfl),.v _ rfl (wfB_iff rfl),trivial⟩⟩,⟨_,Tryz.underlying313,Tryz.sizeOf5,Tryz.isAgg5⟩⟩,
 ⟨Tryz.sizeOf314,Tryz.isAgg314,⟨_,Tryz.zeroValue314,fun _ _=>⟨.v _ rfl (wfB_iff rfl),.v _ rfl (wfB_iff rfl),.v _ rfl (wfB_iff rfl),.v _ rfl (wfB_iff rfl),.v _ rfl (wfB_iff rfl),.v _ rfl (wfB_iff rfl),.v _ rfl (wfB_iff rfl),.v _ rfl (wfB_iff rfl),.v _ rfl (wfB_iff rfl),.v _ rfl (wfB_iff rfl),.v _ rfl (wfB_iff rfl),.v _ rfl (wfB_iff rfl),.v _ rfl (wfB_iff rfl),.v _ rfl (wfB_iff rfl),.v _ rfl (wfB_iff rfl),.v _ rfl (wfB_iff rfl),.v _ rfl (wfB_iff rfl),.v _ rfl (wfB_iff rfl),.v _ rfl (wfB_iff rfl),.v _ rfl (wfB_iff rfl),.v _ rfl (wfB_iff rfl),.v _ rfl (wfB_iff rfl),.v _ rfl (wfB_iff rfl),.v _ rfl (wfB_iff rfl),.v _ rfl (wfB_iff rfl),.v _ rfl (wfB_iff rfl),.v _ rfl (wfB_iff rfl),.v _ rfl (wfB_iff rfl),.v _ rfl (wfB_iff rfl),.v _ rfl (wfB_iff rfl),.v _ rfl (wfB_iff rfl),.v _ rfl (wfB_iff rfl),.v _ rfl (wfB_iff rfl),.v _ rfl (wfB_iff rfl),.v _ rfl (wfB_iff rfl),.v _ rfl (wfB_iff rfl),.v _ rfl (wfB_iff rfl),.v _ rfl (wfB_iff rfl),.v _ rfl (wfB_iff rfl),.v _ rfl (wfB_iff rfl),.v _ rfl (wfB_iff rfl),.v _ rfl (wfB_iff rfl),.v _ rfl (wfB_iff rfl),.v _ rfl (wfB_iff rfl),.v _ rfl (wfB_iff rfl),.v _ rfl (wfB_iff rfl),.v _ rfl (wfB_iff rfl),.v _ rfl (wfB_iff rfl),.v _ rfl (wfB_iff rfl),.v _ rfl (wfB_iff rfl),.v _ rfl (wfB_iff rfl),.v _ rfl (wfB_iff rfl),.v _ rfl (wfB_iff rfl),.v _ rfl (wfB_iff rfl),.v _ rfl (wfB_iff rfl),.v _ rfl (wfB_iff rfl),.v _ rfl (wfB_iff rfl),.v _ rfl (wfB_iff rfl),.v _ rfl (wfB_iff rfl),.v _ rfl (wfB_iff rfl),.v _ rfl (wfB_iff rfl),.v _ rfl (wfB_iff rfl),.v _ rfl (wfB_iff rfl),.v _ rfl (wfB_iff rfl),trivial⟩⟩,⟨_,Tryz.underlying314,Tryz.sizeOf5,Tryz.isAgg5⟩⟩,
 ⟨Tryz.sizeOf318,Tryz.isAgg318,⟨_,Tryz.zeroValue318,fun _ _=>⟨.v _ rfl (wfB_iff rfl),.v _ rfl (wfB_iff rfl),.v _ rfl (wfB_iff rfl),.v _ rfl (wfB_iff rfl),trivial⟩⟩,st_ty Tryz.underlying318 rfl ⟨rfl,Tryz.sizeOf17,Tryz.isAgg17,rfl,Tryz.sizeOf17,Tryz.isAgg17,rfl,Tryz.sizeOf17,Tryz.isAgg17,rfl,Tryz.sizeOf9,Tryz.isAgg9,trivial⟩⟩,trivial⟩
theorem ty_okK (K mu co me:List Nat):ΓOK Tryz.prog ⟨Ty,K,mu,co,me,false⟩:=tys_ok ty_all
theorem ty_okD:ΓOK Tryz.prog ⟨Ty,[],[],[],[],true⟩:=tys_ok ty_all
theorem ty_ok:ΓOK Tryz.prog ⟨Ty,[],[],[],[],false⟩:=tys_ok ty_all
theorem eqv25 (a0 b0:Int) (a1 b1:Int) (x y:Operand) (w:World):(do eqGuard .eql 25 x y (.agg #[.int .i64 a0,.int .i64 a1]) (.agg #[.int .i64 b0,.int .i64 b1]);binOp .eql 25 (.agg #[.int .i64 a0,.int .i64 a1]) (.agg #[.int .i64 b0,.int .i64 b1]):Sem Value).run Tryz.prog w=.ok (.bool (decide (a0=b0∧a1=b1))) w:=by
 by_cases h0:a0=b0
 ·skip
  by_cases h1:a1=b1
  ·skip
   simp [go_sem,eqGuard,binOp,Op.equal,Op.maxDepth,h0,h1]
  ·simp [go_sem,eqGuard,binOp,Op.equal,Op.maxDepth,h0,h1]
 ·simp [go_sem,eqGuard,binOp,Op.equal,Op.maxDepth,h0]
theorem nev25 (a0 b0:Int) (a1 b1:Int) (x y:Operand) (w:World):(do eqGuard .neq 25 x y (.agg #[.int .i64 a0,.int .i64 a1]) (.agg #[.int .i64 b0,.int .i64 b1]);binOp .neq 25 (.agg #[.int .i64 a0,.int .i64 a1]) (.agg #[.int .i64 b0,.int .i64 b1]):Sem Value).run Tryz.prog w=.ok (.bool (decide (¬ (a0=b0∧a1=b1)))) w:=by
 by_cases h0:a0=b0
 ·skip
  by_cases h1:a1=b1
  ·skip
   simp [go_sem,eqGuard,binOp,Op.equal,Op.maxDepth,h0,h1]
  ·simp [go_sem,eqGuard,binOp,Op.equal,Op.maxDepth,h0,h1]
 ·simp [go_sem,eqGuard,binOp,Op.equal,Op.maxDepth,h0]
theorem nev31 (a0 b0:Int) (a1 b1:Int) (a2 b2:Int) (a3 b3:Int) (x y:Operand) (w:World):(do eqGuard .neq 31 x y (.agg #[.int .i64 a0,.int .i64 a1,.int .i64 a2,.int .i64 a3]) (.agg #[.int .i64 b0,.int .i64 b1,.int .i64 b2,.int .i64 b3]);binOp .neq 31 (.agg #[.int .i64 a0,.int .i64 a1,.int .i64 a2,.int .i64 a3]) (.agg #[.int .i64 b0,.int .i64 b1,.int .i64 b2,.int .i64 b3]):Sem Value).run Tryz.prog w=.ok (.bool (decide (¬ (a0=b0∧a1=b1∧a2=b2∧a3=b3)))) w:=by
 by_cases h0:a0=b0
 ·skip
  by_cases h1:a1=b1
  ·skip
   by_cases h2:a2=b2
   ·skip
    by_cases h3:a3=b3
    ·skip
     simp [go_sem,eqGuard,binOp,Op.equal,Op.maxDepth,h0,h1,h2,h3]
    ·simp [go_sem,eqGuard,binOp,Op.equal,Op.maxDepth,h0,h1,h2,h3]
   ·simp [go_sem,eqGuard,binOp,Op.equal,Op.maxDepth,h0,h1,h2]
  ·simp [go_sem,eqGuard,binOp,Op.equal,Op.maxDepth,h0,h1]
 ·simp [go_sem,eqGuard,binOp,Op.equal,Op.maxDepth,h0]
theorem nev43 (a0 b0:Int) (a1 b1:Int) (a2 b2:Int) (x y:Operand) (w:World):(do eqGuard .neq 43 x y (.agg #[.int .i64 a0,.int .i64 a1,.int .i64 a2]) (.agg #[.int .i64 b0,.int .i64 b1,.int .i64 b2]);binOp .neq 43 (.agg #[.int .i64 a0,.int .i64 a1,.int .i64 a2]) (.agg #[.int .i64 b0,.int .i64 b1,.int .i64 b2]):Sem Value).run Tryz.prog w=.ok (.bool (decide (¬ (a0=b0∧a1=b1∧a2=b2)))) w:=by
 by_cases h0:a0=b0
 ·skip
  by_cases h1:a1=b1
  ·skip
   by_cases h2:a2=b2
   ·skip
    simp [go_sem,eqGuard,binOp,Op.equal,Op.maxDepth,h0,h1,h2]
   ·simp [go_sem,eqGuard,binOp,Op.equal,Op.maxDepth,h0,h1,h2]
  ·simp [go_sem,eqGuard,binOp,Op.equal,Op.maxDepth,h0,h1]
 ·simp [go_sem,eqGuard,binOp,Op.equal,Op.maxDepth,h0]
theorem eqv54 (a0 b0:Int) (a1 b1:Int) (a2 b2:Int) (a3 b3:Int) (a4 b4:Int) (a5 b5:Int) (a6 b6:Int) (x y:Operand) (w:World):(do eqGuard .eql 54 x y (.agg #[.int .u8 a0,.int .i64 a1,.int .i64 a2,.int .i64 a3,.int .i64 a4,.int .i64 a5,.int .i64 a6]) (.agg #[.int .u8 b0,.int .i64 b1,.int .i64 b2,.int .i64 b3,.int .i64 b4,.int .i64 b5,.int .i64 b6]);binOp .eql 54 (.agg #[.int .u8 a0,.int .i64 a1,.int .i64 a2,.int .i64 a3,.int .i64 a4,.int .i64 a5,.int .i64 a6]) (.agg #[.int .u8 b0,.int .i64 b1,.int .i64 b2,.int .i64 b3,.int .i64 b4,.int .i64 b5,.int .i64 b6]):Sem Value).run Tryz.prog w=.ok (.bool (decide (a0=b0∧a1=b1∧a2=b2∧a3=b3∧a4=b4∧a5=b5∧a6=b6))) w:=by
 by_cases h0:a0=b0
 ·skip
  by_cases h1:a1=b1
  ·skip
   by_cases h2:a2=b2
   ·skip
    by_cases h3:a3=b3
    ·skip
     by_cases h4:a4=b4
     ·skip
      by_cases h5:a5=b5
      ·skip
       by_cases h6:a6=b6
       ·skip
        simp [go_sem,eqGuard,binOp,Op.equal,Op.maxDepth,h0,h1,h2,h3,h4,h5,h6]
       ·simp [go_sem,eqGuard,binOp,Op.equal,Op.maxDepth,h0,h1,h2,h3,h4,h5,h6]
      ·simp [go_sem,eqGuard,binOp,Op.equal,Op.maxDepth,h0,h1,h2,h3,h4,h5]
     ·simp [go_sem,eqGuard,binOp,Op.equal,Op.maxDepth,h0,h1,h2,h3,h4]
    ·simp [go_sem,eqGuard,binOp,Op.equal,Op.maxDepth,h0,h1,h2,h3]
   ·simp [go_sem,eqGuard,binOp,Op.equal,Op.maxDepth,h0,h1,h2]
  ·simp [go_sem,eqGuard,binOp,Op.equal,Op.maxDepth,h0,h1]
 ·simp [go_sem,eqGuard,binOp,Op.equal,Op.maxDepth,h0]
theorem nev123 (a0 b0:Int) (a1 b1:Int) (x y:Operand) (w:World):(do eqGuard .neq 123 x y (.agg #[.int .i64 a0,.int .u64 a1]) (.agg #[.int .i64 b0,.int .u64 b1]);binOp .neq 123 (.agg #[.int .i64 a0,.int .u64 a1]) (.agg #[.int .i64 b0,.int .u64 b1]):Sem Value).run Tryz.prog w=.ok (.bool (decide (¬ (a0=b0∧a1=b1)))) w:=by
 by_cases h0:a0=b0
 ·skip
  by_cases h1:a1=b1
  ·skip
   simp [go_sem,eqGuard,binOp,Op.equal,Op.maxDepth,h0,h1]
  ·simp [go_sem,eqGuard,binOp,Op.equal,Op.maxDepth,h0,h1]
 ·simp [go_sem,eqGuard,binOp,Op.equal,Op.maxDepth,h0]
end Sx
end Go.Proofs.YtfkfficabeclcaaGreatDoor
