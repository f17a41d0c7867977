import Derived.Test.YtddbmpbihpkabaaGreatGLGPartsAG
import Derived.Orders
set_option linter.all false
namespace Go.Proofs.YtddbmpbihpkabaaGreat
open Go Go.RowKit
namespace Sx
section
variable {α:Type}
def push (u:Option (Nat × α)) (E:List (Nat × α)):List (Nat × α):=match u with|some p=>p::E|none=>E
def runU:List (Option (Nat × α))→Nat→(Nat→Bool)→List (Nat × α)→List (Nat × α)
 | [],_,_,E=>E
 | u::us,i,X,E=>runU us (i+1) X (if X i then push u E else E)
theorem look_push {u:Option (Nat × α)} {E E':List (Nat × α)} {t:Nat} (h:look E t=look E' t):look (push u E) t=look (push u E') t:=by
 cases u with
 | none=>exact h
 | some p=>obtain ⟨k,v⟩:=p;simp only [push,look_cons];split<;>first|rfl|exact h
theorem look_push_ne {u:Option (Nat × α)} {E:List (Nat × α)} {t:Nat} (h:∀ v,u≠some (t,v)):look (push u E) t=look E t:=by
 cases u with
 | none=>rfl
 | some p =>
  obtain ⟨k,v⟩:=p
  simp only [push,look_cons]
  rw [if_neg (fun e=>h v (by rw [e]))]
theorem runU_congr:∀ (us:List (Option (Nat × α))) (i:Nat) (X Y:Nat→Bool) (E E':List (Nat × α)) (t:Nat),(∀ j v,us[j]? = some (some (t,v))→X (i+j)=Y (i+j))→look E t=look E' t →
  look (runU us i X E) t=look (runU us i Y E') t
 | [],_,_,_,_,_,_,_,h=>h
 | u::us,i,X,Y,E,E',t,hx,h=>by
  refine runU_congr us (i+1) X Y _ _ t (fun j v hj=>by have:=hx (j+1) v (by simpa using hj);rwa [show i+(j+1)=i+1+j by omega] at this) ?_
  by_cases hu:∃ v,u=some (t,v)
  ·obtain ⟨v,rfl⟩:=hu
   have:=hx 0 v rfl
   rw [Nat.add_zero] at this
   rw [this]
   split
   ·exact look_push h
   ·exact h
  ·have hu:∀ v,u≠some (t,v):=fun v e=>hu ⟨v,e⟩
   have e1:∀ (b:Bool) (F:List (Nat × α)),look (if b then push u F else F) t=look F t:=fun b F=>by
    cases b
    ·rfl
    ·exact look_push_ne hu
   rw [e1,e1];exact h
theorem runU_last:∀ (us:List (Option (Nat × α))) (i j0:Nat) (X:Nat→Bool) (E:List (Nat × α)) (k:Nat) (v:α),us[j0]? = some (some (k,v))→X (i+j0)=true→(∀ j v',j0<j→us[j]? = some (some (k,v'))→X (i+j)=false) →
  look (runU us i X E) k=some v
 | [],_,_,_,_,_,_,h,_,_=>by simp at h
 | u::us,i,0,X,E,k,v,h,hx,hl=>by
  simp at h
  subst h
  rw [Nat.add_zero] at hx
  have e:=runU_congr us (i+1) X (fun _=>false) (push (some (k,v)) E) (push (some (k,v)) E) k (fun j v' hj=>by
   have:=hl (j+1) v' (by omega) (by simpa using hj)
   rwa [show i+(j+1)=i+1+j by omega] at this) rfl
  simp only [runU,hx,if_true]
  rw [e]
  have:∀ (us:List (Option (Nat × α))) (i:Nat) (E:List (Nat × α)),runU us i (fun _=>false) E=E:=fun us=>by
   induction us with
   | nil=>intros;rfl
   | cons u us ih=>intro i E;simp only [runU];exact ih _ _
  rw [this]
  simp [push,look_cons]
 | u::us,i,j0+1,X,E,k,v,h,hx,hl=>by
  simp only [runU]
  exact runU_last us (i+1) j0 X _ k v (by simpa using h) (by rwa [show i+(j0+1)=i+1+j0 by omega] at hx) (fun j v' hj hv=>by
   have:=hl (j+1) v' (by omega) (by simpa using hv)
   rwa [show i+(j+1)=i+1+j by omega] at this)
def also (X:Nat→Bool) (i:Nat):Nat→Bool:=fun j=>X j || decide (j=i)
theorem runU_insert {us:List (Option (Nat × α))} {i:Nat} {X:Nat→Bool} {E:List (Nat × α)} {u:Option (Nat × α)} (hu:us[i]? = some u)
  (hl:∀ j k v v',i<j→us[j]? = some (some (k,v'))→u=some (k,v)→X j=false) (t:Nat):look (runU us 0 (also X i) E) t=look (push u (runU us 0 X E)) t:=by
 by_cases hut:∃ v,u=some (t,v)
 ·obtain ⟨v,rfl⟩:=hut
  rw [runU_last us 0 i (also X i) E t v hu (by simp [also]) (fun j v' hj hv=>by
   have:=hl j t v v' hj hv rfl
   simp only [also,Nat.zero_add,this,Bool.false_or,decide_eq_false_iff_not]
   omega)]
  simp [push,look_cons]
 ·have hne:∀ v,u≠some (t,v):=fun v e=>hut ⟨v,e⟩
  rw [look_push_ne hne]
  refine runU_congr us 0 _ _ E E t (fun j v hj => ?_) rfl
  have:j≠i:=fun e=>by rw [e,hu] at hj;exact hne v (by injection hj)
  simp [also,this]
end
def updE (dst:Option Nat) (x:Eff):Option (Nat × SV) :=
 match x,dst with
 | .val v,some d=>some (d,v)
 | .new _ _ v,some d=>some (d,v)
 | .many _ v,some d=>some (d,v)
 | _,_=>none
def updH (x:Eff):Option (Nat × Blk) :=
 match x with
 | .new n b _=>some (n,b)
 | .put n b=>some (n,b)
 | .val _=>none
 | .many _ _=>none
def Eff.single:Eff→Bool
 | .many _ _=>false
 | _=>true
theorem apE_push (dst:Option Nat) (x:Eff) (E:Env):apE dst x E=push (updE dst x) E:=by
 cases x<;>cases dst<;>rfl
theorem apH_push {x:Eff} (hs:x.single=true) (H:Hp):apH x H=push (updH x) H:=by cases x<;>first|rfl|cases hs
def mask (acc:List Nat) (o:Oper):Nat:=o.after.toList.foldl (fun s e=>match Region.binds .any e with|true=>s ||| 2 ^ e.on ||| acc.getD e.on 0|false=>s) 0
def befs:List Oper→List Nat→List Nat
 | [],acc=>acc
 | o::r,acc=>befs r (acc++[mask acc o])
theorem mask_bit (acc:List Nat) (j:Nat):∀ (es:List Edge) (s:Nat),(es.foldl (fun s e=>match Region.binds .any e with|true=>s ||| 2 ^ e.on ||| acc.getD e.on 0|false=>s) s).testBit j=true →
  s.testBit j=true∨∃ e∈es,Region.binds .any e=true∧(e.on=j∨(acc.getD e.on 0).testBit j=true)
 | [],s,h=>.inl h
 | e::es,s,h=>by
  rcases mask_bit acc j es _ h with h|⟨e',h1,h2⟩
  ·dsimp only at h
   split at h
   ·rename_i hb
    rw [Nat.testBit_or,Nat.testBit_or,Nat.testBit_two_pow,Bool.or_eq_true,Bool.or_eq_true,decide_eq_true_eq] at h
    rcases h with (h|h)|h
    ·exact .inl h
    ·exact .inr ⟨e,List.mem_cons_self ..,hb,.inl h⟩
    ·exact .inr ⟨e,List.mem_cons_self ..,hb,.inr h⟩
   ·exact .inl h
  ·exact .inr ⟨e',List.mem_cons_of_mem _ h1,h2⟩
theorem befs_length:∀ (ops:List Oper) (acc:List Nat),(befs ops acc).length=acc.length+ops.length
 | [],acc=>rfl
 | o::r,acc=>by rw [befs,befs_length r];simp;omega
theorem befs_old:∀ (ops:List Oper) (acc:List Nat) (i:Nat),i<acc.length→(befs ops acc)[i]? = acc[i]?
 | [],acc,i,h=>rfl
 | o::r,acc,i,h=>by rw [befs,befs_old r _ i (by simp;omega),List.getElem?_append_left h]
theorem befs_get:∀ (ops:List Oper) (acc:List Nat) (i:Nat) (o:Oper),ops[i]? = some o→∃ pre,(befs ops acc)[acc.length+i]? = some (mask pre o)∧pre.length=acc.length+i∧∀ j,j<pre.length→pre[j]? = (befs ops acc)[j]?
 | [],acc,i,o,h=>by simp at h
 | o'::r,acc,0,o,h=>by
  simp at h
  subst h
  refine ⟨acc,?_,rfl,fun j hj => ?_⟩
  ·rw [befs,befs_old r _ _ (by simp)];simp
  ·rw [befs,befs_old r _ _ (by simp;omega),List.getElem?_append_left hj]
 | o'::r,acc,i+1,o,h=>by
  obtain ⟨pre,h1,h2,h3⟩:=befs_get r (acc++[mask acc o']) i o (by simpa using h)
  refine ⟨pre,?_,by simp at h2;omega,h3⟩
  rw [befs]
  simpa [Nat.add_assoc,Nat.add_comm 1 i] using h1
theorem befs_spec {ops:List Oper} {X:Nat→Bool} (hcl:∀ i o,ops[i]? = some o→X i=true→∀ e∈o.after,Region.binds .any e=true→X e.on=true) :
  ∀ (i:Nat) (o:Oper) (j:Nat),ops[i]? = some o→(∀ e∈o.after,Region.binds .any e=true→X e.on=true)→((befs ops []).getD i 0).testBit j=true→X j=true:=by
 intro i
 induction i using Nat.strongRecOn with
 | _ i ih =>
  intro o j ho he hb
  obtain ⟨pre,h1,h2,h3⟩:=befs_get ops [] i o ho
  simp only [List.length_nil,Nat.zero_add] at h1 h2
  rw [List.getD_eq_getElem?_getD,h1,Option.getD_some] at hb
  rcases mask_bit pre j o.after.toList 0 hb with hb|⟨e,he1,he2,he3⟩
  ·simp at hb
  ·have hX:=he e (by simpa using he1) he2
   rcases he3 with rfl|he3
   ·exact hX
   ·have hlt:e.on<pre.length:=by
     rcases Nat.lt_or_ge e.on pre.length with h|h
     ·exact h
     ·rw [List.getD_eq_getElem?_getD,List.getElem?_eq_none h] at he3;simp at he3
    rw [List.getD_eq_getElem?_getD,h3 _ hlt,← List.getD_eq_getElem?_getD] at he3
    have hlen:=befs_length ops []
    have hi:i<ops.length:=(List.getElem?_eq_some_iff.1 ho).1
    obtain ⟨o',ho'⟩:∃ o',ops[e.on]? = some o':=⟨_,List.getElem?_eq_getElem (by omega)⟩
    exact ih e.on (by omega) o' j ho' (hcl e.on o' ho' hX) he3
inductive GV where
 | yes
 | no
 | ask (b:Bool) (want:Bool)
 | bad
def gvS (want:Bool):Option SV→GV
 | some (.c (.at (.d (.v (.bool b)))))=>.ask b want
 | some (.tup [])=>.no
 | _=>.bad
def gv (ops:List Oper) (e:Nat→Option SV) (o:Oper):GV :=
 match o.guard with
 | none=>.yes
 | some (j,want)=>match ops[j]? with
  | some oj=>match oj.dst with
   | some t=>gvS want (e t)
   | none=>.bad
  | none=>.bad
def GV.run:GV→Prop→Prop→Prop
 | .yes,A,_=>A
 | .no,_,B=>B
 | .ask b true,A,B=>br b A B
 | .ask b false,A,B=>br b B A
 | .bad,_,_=>False
def GV.val:GV→Option Bool
 | .yes=>some true
 | .no=>some false
 | .ask b w=>some (b == w)
 | .bad=>none
theorem GV.run_val {g:GV} {A B:Prop} (h:g.run A B):(g.val=some true∧A)∨(g.val=some false∧B):=by
 cases g with
 | yes=>exact .inl ⟨rfl,h⟩
 | no=>exact .inr ⟨rfl,h⟩
 | ask b w =>
  cases w<;>cases b<;>first
  | exact .inl ⟨rfl,br.t h rfl⟩
  | exact .inl ⟨rfl,br.f h rfl⟩
  | exact .inr ⟨rfl,br.t h rfl⟩
  | exact .inr ⟨rfl,br.f h rfl⟩
 | bad=>exact h.elim
def skipE:Eff:=.val (.tup [])
def dstB (sz:Nat):Option Nat→Bool
 | some d=>Nat.blt d sz
 | none=>true
section
variable {P:Program} {C M0:Nat→Prop} {w0 w:World} {sz:Nat} {ρ:Nat→Nm} {E:Env} {H:Hp} {a:Act} {o:Oper} {x:Eff} {Γ:Cfg} {ops:List Oper}
theorem gv_wanted (R:Rel C M0 w0 sz ρ E H a w) {b:Bool} (h:(gv ops (look E) o).val=some b):Region.wanted o (yielded ops.toArray a.tmps)=b:=by
 unfold gv at h
 unfold Region.wanted
 split at h
 ·rename_i hg
  simp only [GV.val,Option.some.injEq] at h
  simp [hg,h]
 ·rename_i j want hg
  split at h
  ·rename_i oj hj
   split at h
   ·rename_i t ht
    simp only [hg]
    have hy:yielded ops.toArray a.tmps j=match a.tmps[t]? with|some (.bool b)=>some b|_=>none:=by
     have e:((ops.toArray[j]?).bind (·.dst)).bind (a.tmps[·]?)=a.tmps[t]? := by simp [hj,ht]
     unfold yielded
     rw [e]
     rfl
    unfold gvS at h
    split at h
    ·rename_i c hc
     simp only [GV.val,Option.some.injEq] at h
     have h1:Rep w (Mof M0 ρ H) (.v (.bool c)) (a.tmps.getD t undef):=R.env t _ hc
     have hv:a.tmps[t]? = some (.bool c):=by
      generalize hgd:a.tmps.getD t undef=u at h1
      cases h1
      rw [Array.getD_eq_getD_getElem?] at hgd
      cases hx:a.tmps[t]? with
      | none=>rw [hx] at hgd;simp [undef] at hgd
      | some u=>rw [hx] at hgd;simpa using hgd
     rw [hy,hv,← h]
     cases c<;>cases want<;>rfl
    ·rename_i hc
     simp only [GV.val,Option.some.injEq] at h
     obtain ⟨vs,h1,h2⟩:=R.env t _ hc
     have hv:yielded ops.toArray a.tmps j=none:=by
      rw [hy]
      rw [Array.getD_eq_getD_getElem?] at h1
      cases hx:a.tmps[t]? with
      | none=>rfl
      | some u=>rw [hx] at h1;simp at h1;subst h1;rfl
     rw [hv,← h]
     cases want<;>rfl
    ·cases h
   ·cases h
  ·cases h
def OpAt (P:Program) (Γ:Cfg) (sz:Nat) (ops:List Oper) (e:Nat→Option SV) (h:Nat→Option Blk) (o:Oper) (x:Eff):Prop :=
 ((gv ops e o).val=some true∧(stepF P Γ sz o e h).has x)∨((gv ops e o).val=some false∧dstB sz o.dst=true∧x=skipE)
theorem opAt_sound (hΓ:ΓOK P Γ) (hdm:Γ.dm=false→C w0.heap.size) (R:Rel C M0 w0 sz ρ E H a w) (h:OpAt P Γ sz ops (look E) (look H) o x) {i:Nat} (hi:ops[i]? = some o) {K:Act→World→Prop} {Q:Exit→Act→World→Prop}
  (hK:∀ ρ' a' w',Rel C M0 w0 sz ρ' (apE o.dst x E) (apH x H) a' w'→K a' w'):wpOp P ops.toArray Q i K a w:=by
 unfold wpOp
 have hi':ops.toArray[i]? = some o:=by simpa using hi
 simp only [hi']
 rcases h with ⟨hg,hs⟩|⟨hg,hd,rfl⟩
 ·rw [gv_wanted R hg,if_pos rfl]
  exact .inl (step_sound hΓ hdm R hs _ _ fun ρ' v w' R'=>hK ρ' _ w' R')
 ·rw [gv_wanted R hg,if_neg (by simp)]
  refine hK ρ _ w (R.val (dst:=o.dst) (x:=.tup []) (fun d hdd => ?_) ⟨[],rfl,trivial⟩ (fun n hn=>by simp [SV.names,namesC] at hn))
  rw [hdd] at hd
  simpa [dstB] using hd
end
end Sx
end Go.Proofs.YtddbmpbihpkabaaGreat

namespace Go.Proofs.YtddbmpbihpkabaaGreat
open Go Go.RowKit
namespace Sx
def tmpsOf:List Operand→List Nat
 | []=>[]
 | .tmp t::l=>t::tmpsOf l
 | _::l=>tmpsOf l
def guardTmp (all:List Oper) (o:Oper):List Nat :=
 match o.guard with
 | none=>[]
 | some (j,_)=>match all[j]? with
  | some oj=>match oj.dst with|some t=>[t]|none=>[]
  | none=>[]
def usesOf (all:List Oper) (o:Oper):List Nat:=guardTmp all o++tmpsOf o.op.operands.toList
def affOf:Eff→List Nat
 | .new n _ _|.put n _=>[n]
 | .val _=>[]
 | .many l _=>l.map (·.1)
def dstL:Option Nat→List Nat
 | some d=>[d]
 | none=>[]
theorem mem_tmps:∀ {l:List Operand} {t:Nat},Operand.tmp t∈l→t∈tmpsOf l
 | .tmp u::l,t,h=>by
  rcases List.mem_cons.1 h with h|h
  ·injection h with h;subst h;exact List.mem_cons_self ..
  ·exact List.mem_cons_of_mem _ (mem_tmps h)
 | .const _::l,t,h=>by rcases List.mem_cons.1 h with h|h<;>first|(cases h;done)|exact mem_tmps (l:=l) h
 | .global _::l,t,h=>by rcases List.mem_cons.1 h with h|h<;>first|(cases h;done)|exact mem_tmps (l:=l) h
 | .func _::l,t,h=>by rcases List.mem_cons.1 h with h|h<;>first|(cases h;done)|exact mem_tmps (l:=l) h
theorem memB_iff {n:Nat}:∀ {l:List Nat},memB n l=true↔n∈l
 | []=>by simp [memB]
 | m::l=>by
  unfold memB
  split
  ·rename_i h
   have:n=m:=by simpa using h
   simp [this]
  ·rename_i h
   have:n≠m:=by rintro rfl;simp at h
   rw [memB_iff];simp [this]
section
variable {P:Program} {sz:Nat} {o:Oper} {x:Eff} {Γ:Cfg} {ops:List Oper} {e e':Nat→Option SV} {h h':Nat→Option Blk}
theorem valsOf_congr (he:∀ t∈tmpsOf o.op.operands.toList,e t=e' t):valsOf e o=valsOf e' o:=by
 unfold valsOf
 refine List.map_congr_left fun y hy => ?_
 cases y with
 | tmp t=>exact he t (mem_tmps hy)
 | _=>rfl
theorem gv_congr (he:∀ t∈guardTmp ops o,e t=e' t):gv ops e o=gv ops e' o:=by
 unfold gv
 unfold guardTmp at he
 split
 ·rfl
 ·rename_i j want hg
  rw [hg] at he
  simp only at he
  split
  ·rename_i oj hj
   rw [hj] at he
   simp only at he
   split
   ·rename_i t ht
    rw [ht] at he
    rw [he t (List.mem_cons_self ..)]
   ·rfl
  ·rfl
theorem opAt_congr (he:∀ t∈usesOf ops o,e t=e' t) (hh:∀ n∈namR o (valsOf e o),h n=h' n) (hd:∀ d∈dstL o.dst,h d=h' d) (H:OpAt P Γ sz ops e h o x):OpAt P Γ sz ops e' h' o x:=by
 have h1:=gv_congr (ops:=ops) (o:=o) (e:=e) (e':=e') fun t ht=>he t (List.mem_append_left _ ht)
 have h2:=valsOf_congr (o:=o) (e:=e) (e':=e') fun t ht=>he t (List.mem_append_right _ ht)
 have h3:stepF P Γ sz o e h=stepF P Γ sz o e' h':=by
  unfold stepF
  rw [← h2]
  congr 1
  ·funext n
   unfold onlyN
   split
   ·rename_i hm;exact hh n (memB_iff.1 hm)
   ·rfl
  ·unfold freshB
   cases hx:o.dst with
   | none=>rfl
   | some d =>
    simp only
    rw [hd d (by rw [hx];exact List.mem_cons_self ..)]
 unfold OpAt at *
 rw [← h1,← h3]
 exact H
def before2 (pre:List Nat) (i j:Nat):Bool:=Nat.testBit (pre.getD j 0) i
def ordB (pre:List Nat) (i j:Nat):Bool:=match Nat.blt i j with|true=>before2 pre i j|false=>before2 pre j i
def disjB (a b:List Nat):Bool:=a.all fun n => !memB n b
def pairB (pre:List Nat) (i:Nat) (di:List Nat) (ui ni ai:List Nat) (j:Nat) (dj aj:List Nat):Bool :=
 match Nat.beq i j with
 | true=>true
 | false=>disjB di dj && (disjB ui dj || ordB pre i j) && (disjB ni aj && disjB di aj || ordB pre i j) && (disjB ai aj || !Nat.blt i j || before2 pre i j)
def chkJ (pre:List Nat) (i:Nat) (di ui ni ai:List Nat):Nat→List Oper→List (List Nat × List Nat)→Bool
 | _,[],[]=>true
 | j,o::ops,r::recs=>pairB pre i di ui ni ai j (dstL o.dst) r.2 && chkJ pre i di ui ni ai (j+1) ops recs
 | _,_,_=>false
def chkI (pre:List Nat) (all:List Oper) (rall:List (List Nat × List Nat)):Nat→List Oper→List (List Nat × List Nat)→Bool
 | _,[],[]=>true
 | i,o::ops,r::recs=>(o.after.toList.all fun e => !Region.binds .any e || Nat.blt e.on i) && chkJ pre i (dstL o.dst) (usesOf all o) r.1 r.2 0 all rall && chkI pre all rall (i+1) ops recs
 | _,_,_=>false
def chk (all:List Oper) (recs:List (List Nat × List Nat)):Bool:=chkI (befs all []) all recs 0 all recs
theorem chkJ_spec {pre:List Nat} {i:Nat} {di ui ni ai:List Nat}:∀ {ops:List Oper} {recs:List (List Nat × List Nat)} {j0:Nat},chkJ pre i di ui ni ai j0 ops recs=true →
  ops.length=recs.length∧∀ (j:Nat) (o:Oper) (r:List Nat × List Nat),ops[j]? = some o→recs[j]? = some r→pairB pre i di ui ni ai (j0+j) (dstL o.dst) r.2=true
 | [],[],j0,h=>⟨rfl,fun j o r ho=>by simp at ho⟩
 | o::ops,r::recs,j0,h=>by
  simp only [chkJ,Bool.and_eq_true] at h
  obtain ⟨h1,h2⟩:=chkJ_spec h.2
  refine ⟨by simp [h1],fun j o' r' ho hr => ?_⟩
  cases j with
  | zero =>
   simp at ho hr
   subst ho hr
   exact h.1
  | succ j =>
   have:=h2 j o' r' (by simpa using ho) (by simpa using hr)
   rwa [show j0+1+j=j0+(j+1) by omega] at this
 | [],_::_,_,h=>by simp [chkJ] at h
 | _::_,[],_,h=>by simp [chkJ] at h
theorem chkI_spec {pre:List Nat} {all:List Oper} {rall:List (List Nat × List Nat)}:∀ {ops:List Oper} {recs:List (List Nat × List Nat)} {i0:Nat},chkI pre all rall i0 ops recs=true →
  ops.length=recs.length∧∀ (i:Nat) (o:Oper) (r:List Nat × List Nat),ops[i]? = some o→recs[i]? = some r →
   (∀ e∈o.after,Region.binds .any e=true→e.on<i0+i)∧chkJ pre (i0+i) (dstL o.dst) (usesOf all o) r.1 r.2 0 all rall=true
 | [],[],i0,h=>⟨rfl,fun j o r ho=>by simp at ho⟩
 | o::ops,r::recs,i0,h=>by
  simp only [chkI,Bool.and_eq_true] at h
  obtain ⟨h1,h2⟩:=chkI_spec h.2
  refine ⟨by simp [h1],fun j o' r' ho hr => ?_⟩
  cases j with
  | zero =>
   simp at ho hr
   subst ho hr
   refine ⟨fun e he hb => ?_,h.1.2⟩
   have:=List.all_eq_true.1 h.1.1 e (by simpa using he)
   simpa [hb] using this
  | succ j =>
   have:=h2 j o' r' (by simpa using ho) (by simpa using hr)
   rwa [show i0+1+j=i0+(j+1) by omega] at this
 | [],_::_,_,h=>by simp [chkI] at h
 | _::_,[],_,h=>by simp [chkI] at h
theorem disjB_spec {a b:List Nat} (h:disjB a b=true):∀ n∈a,n ∉ b:=fun n ha hb=>by
 have:=List.all_eq_true.1 h n ha
 rw [memB_iff.2 hb] at this
 cases this
structure Chk (ops:List Oper) (recs:List (List Nat × List Nat)):Prop where
 len:ops.length=recs.length
 back:∀ (i:Nat) (o:Oper),ops[i]? = some o→∀ e∈o.after,Region.binds .any e=true→e.on<i
 pair:∀ (i j:Nat) (o o':Oper) (r r':List Nat × List Nat),ops[i]? = some o→recs[i]? = some r→ops[j]? = some o'→recs[j]? = some r'→i≠j →
  (∀ d∈dstL o.dst,d ∉ dstL o'.dst)∧((∃ t∈usesOf ops o,t∈dstL o'.dst)→ordB (befs ops []) i j=true)∧((∃ n,(n∈r.1∨n∈dstL o.dst)∧n∈r'.2)→ordB (befs ops []) i j=true) ∧
  ((∃ n∈r.2,n∈r'.2)→i<j→before2 (befs ops []) i j=true)
theorem chk_spec {ops:List Oper} {recs:List (List Nat × List Nat)} (h:chk ops recs=true):Chk ops recs:=by
 obtain ⟨h1,h2⟩:=chkI_spec h
 have get:∀ (i:Nat) (o:Oper),ops[i]? = some o→∃ r,recs[i]? = some r:=fun i o ho=>by
  have:=(List.getElem?_eq_some_iff.1 ho).1
  exact ⟨_,List.getElem?_eq_getElem (by omega)⟩
 refine ⟨h1,fun i o ho e he hb => ?_,fun i j o o' r r' ho hr ho' hr' hij => ?_⟩
 ·obtain ⟨r,hr⟩:=get i o ho
  simpa using (h2 i o r ho hr).1 e he hb
 ·have hJ:=(h2 i o r ho hr).2
  have hp:=(chkJ_spec hJ).2 j o' r' ho' hr'
  rw [Nat.zero_add,Nat.zero_add] at hp
  unfold pairB at hp
  split at hp
  ·rename_i hb
   exact absurd (by simpa using hb) hij
  ·simp only [Bool.and_eq_true,Bool.or_eq_true,Bool.not_eq_true'] at hp
   obtain ⟨⟨⟨p1,p2⟩,p3⟩,p4⟩:=hp
   refine ⟨disjB_spec p1,fun ⟨t,h3,h4⟩ => ?_,fun ⟨n,h3,h4⟩ => ?_,fun ⟨n,h3,h4⟩ hlt => ?_⟩
   ·rcases p2 with p2|p2
    ·exact absurd h4 (disjB_spec p2 t h3)
    ·exact p2
   ·rcases p3 with ⟨p3,p5⟩|p3
    ·rcases h3 with h3|h3
     ·exact absurd h4 (disjB_spec p3 n h3)
     ·exact absurd h4 (disjB_spec p5 n h3)
    ·exact p3
   ·rcases p4 with (p4|p4)|p4
    ·exact absurd h4 (disjB_spec p4 n h3)
    ·have:Nat.blt i j=true:=by simpa using hlt
     rw [this] at p4;cases p4
    ·exact p4
end
section
variable {P:Program} {C M0:Nat→Prop} {w0 w:World} {sz:Nat} {ρ:Nat→Nm} {E0:Env} {H0:Hp} {a:Act} {Γ:Cfg} {ops:List Oper} {xs:List Eff} {recs:List (List Nat × List Nat)} {Q:Exit→Act→World→Prop}
def usE (ops:List Oper) (xs:List Eff):List (Option (Nat × SV)):=(ops.zip xs).map fun p=>updE p.1.dst p.2
def usH (xs:List Eff):List (Option (Nat × Blk)):=xs.map updH
theorem usE_get {j t:Nat} {v:SV} (h:(usE ops xs)[j]? = some (some (t,v))):∃ o,ops[j]? = some o∧o.dst=some t:=by
 unfold usE at h
 rw [List.getElem?_map] at h
 cases hz:(ops.zip xs)[j]? with
 | none=>rw [hz] at h;simp at h
 | some p =>
  rw [hz] at h
  obtain ⟨h1,h2⟩:=List.getElem?_zip_eq_some.1 hz
  refine ⟨p.1,h1,?_⟩
  simp only [Option.map_some,Option.some.injEq] at h
  unfold updE at h
  split at h<;>first|(injection h with h;injection h with h1 h2;subst h1;assumption)|cases h
theorem usH_get {j n:Nat} {b:Blk} (h:(usH xs)[j]? = some (some (n,b))):∃ x,xs[j]? = some x∧n∈affOf x:=by
 unfold usH at h
 rw [List.getElem?_map] at h
 cases hx:xs[j]? with
 | none=>rw [hx] at h;simp at h
 | some x =>
  rw [hx] at h
  refine ⟨x,rfl,?_⟩
  simp only [Option.map_some,Option.some.injEq] at h
  unfold updH at h
  split at h<;>first|(injection h with h;injection h with h1 h2;subst h1;simp [affOf])|cases h
theorem getD_set_same' {listed:Array Bool} {i:Nat} (h:i<listed.size):(fun j=>(listed.setIfInBounds i true).getD j false)=also (fun j=>listed.getD j false) i:=by
 funext j
 by_cases hj:j=i
 ·subst hj;simp [also,h]
 ·have:i≠j:=fun e=>hj e.symm
  simp [also,hj,Array.getElem?_setIfInBounds_ne this]
theorem draw_any (hΓ:ΓOK P Γ) (hdm:Γ.dm=false→C w0.heap.size) (hlen:xs.length=ops.length) (hC:Chk ops recs)
  (hrec:∀ (i:Nat) (o:Oper) (x:Eff) (r:List Nat × List Nat),ops[i]? = some o→xs[i]? = some x→recs[i]? = some r→r.2=affOf x∧x.single=true∧(OpAt P Γ sz ops (look (runU (usE ops xs) 0 (fun j=>decide (j<i)) E0)) (look (runU (usH xs) 0 (fun j=>decide (j<i)) H0)) o x) ∧
   namR o (valsOf (look (runU (usE ops xs) 0 (fun j=>decide (j<i)) E0)) o)=r.1∨(r=([],[])∧x=skipE∧(gv ops (look (runU (usE ops xs) 0 (fun j=>decide (j<i)) E0)) o).val=some false∧dstB sz o.dst=true))
  (hQ:∀ ρ a w,Rel C M0 w0 sz ρ (runU (usE ops xs) 0 (fun _=>true) E0) (runU (usH xs) 0 (fun _=>true) H0) a w→Q .normal a w) :
  ∀ (fuel:Nat) (listed:Array Bool) (a:Act) (w:World),listed.size=ops.length→listed.toList.countP (fun b => !b)=fuel →
   (∀ i o,ops[i]? = some o→listed.getD i false=true→∀ e∈o.after,Region.binds .any e=true→listed.getD e.on false=true) →
   (∃ ρ,Rel C M0 w0 sz ρ (runU (usE ops xs) 0 (fun j=>listed.getD j false) E0) (runU (usH xs) 0 (fun j=>listed.getD j false) H0) a w)→wpAny P .any ops.toArray Q fuel listed a w:=by
 have hend:∀ (listed:Array Bool) (a:Act) (w:World),(∀ i,i<ops.length→listed.getD i false=true) →
   (∃ ρ,Rel C M0 w0 sz ρ (runU (usE ops xs) 0 (fun j=>listed.getD j false) E0) (runU (usH xs) 0 (fun j=>listed.getD j false) H0) a w)→Q .normal a w:=by
  rintro listed a w hall ⟨ρ,R⟩
  refine hQ ρ a w (R.same (fun t x h => ?_) fun n => ?_)
  ·rw [← h]
   refine runU_congr _ _ _ _ _ _ t (fun j v hj => ?_) rfl
   obtain ⟨o,ho,_⟩:=usE_get hj
   rw [Nat.zero_add]
   exact hall j (List.getElem?_eq_some_iff.1 ho).1
  ·refine runU_congr _ _ _ _ _ _ n (fun j v hj => ?_) rfl
   obtain ⟨x,hx,_⟩:=usH_get hj
   rw [Nat.zero_add]
   exact (hall j (by rw [← hlen];exact (List.getElem?_eq_some_iff.1 hx).1)).symm
 intro fuel
 induction fuel with
 | zero =>
  intro listed a w hsz hcnt hcl hR
  have hall:∀ i,i<ops.length→listed.getD i false=true:=fun i hi=>by
   have h0:=List.countP_eq_zero.1 hcnt (listed[i]'(by omega)) (by simp)
   have:i<listed.size:=by omega
   simpa [Array.getD,this] using h0
  refine ⟨?_,hend listed a w hall hR⟩
  refine List.eq_nil_iff_forall_not_mem.2 fun i hi => ?_
  obtain ⟨h1,o,ho,_⟩:=mem_ready.1 hi
  have hi':i<ops.length:=by have:=(Array.getElem?_eq_some_iff.1 ho).1;simpa using this
  have h2:=hall i hi'
  have:i<listed.size:=by omega
  simp [this] at h1 h2
  rw [h1] at h2;cases h2
 | succ fuel ih =>
  intro listed a w hsz hcnt hcl hR
  refine ⟨fun h0 => ?_,fun i hi => ?_⟩
  ·refine hend listed a w (fun i => ?_) hR
   induction i using Nat.strongRecOn with
   | _ i ihi =>
    intro hi
    cases hx:listed.getD i false with
    | true=>rfl
    | false =>
     exfalso
     obtain ⟨o,ho⟩:∃ o,ops[i]? = some o:=⟨_,List.getElem?_eq_getElem hi⟩
     have:i∈Region.ready .any ops.toArray listed:=by
      refine mem_ready.2 ⟨?_,o,by simpa using ho,fun e he hb => ?_⟩
      ·have:i<listed.size:=by omega
       simpa [this] using hx
      ·have hlt:=hC.back i o ho e he hb
       exact ihi e.on hlt (by omega)
     rw [h0] at this
     cases this
  ·obtain ⟨h1,o,ho,hedge⟩:=mem_ready.1 hi
   have ho:ops[i]? = some o:=by simpa using ho
   have hi':i<ops.length:=(List.getElem?_eq_some_iff.1 ho).1
   have his:i<listed.size:=by omega
   have hXi:listed.getD i false=false:=by simpa [his] using h1
   obtain ⟨x,hx⟩:∃ x,xs[i]? = some x:=⟨_,List.getElem?_eq_getElem (by omega)⟩
   obtain ⟨r,hr⟩:∃ r,recs[i]? = some r:=⟨_,List.getElem?_eq_getElem (by have:=hC.len;omega)⟩
   obtain ⟨ρ,R⟩:=hR
   have hpre:∀ j,before2 (befs ops []) j i=true→listed.getD j false=true:=fun j hj=>befs_spec (X:=fun j=>listed.getD j false) hcl i o j ho hedge hj
   have hpost:∀ j o',ops[j]? = some o'→before2 (befs ops []) i j=true→listed.getD j false=false:=fun j o' ho' hj=>by
    cases hx:listed.getD j false with
    | false=>rfl
    | true =>
     have:=befs_spec (X:=fun j=>listed.getD j false) hcl j o' i ho' (hcl j o' ho' hx) hj
     rw [show listed.getD i false=false from hXi] at this;cases this
   have hord:∀ j o',ops[j]? = some o'→(i≠j→ordB (befs ops []) i j=true)→listed.getD j false=decide (j<i):=fun j o' ho' h=>by
    by_cases hij:i=j
    ·subst hij;simp [hXi]
    ·have h:=h hij
     unfold ordB at h
     split at h
     ·rename_i hb
      have hlt:i<j:=by simpa using hb
      rw [hpost j o' ho' h]
      have:¬ j<i:=by omega
      simp [this]
     ·rename_i hb
      have hlt:¬ i<j:=fun hlt=>by
       have:Nat.blt i j=true:=by simpa using hlt
       rw [this] at hb;cases hb
      rw [hpre j h]
      have:j<i:=by omega
      simp [this]
   have hpair:=fun (j:Nat) (o':Oper) (r':List Nat × List Nat) (ho':ops[j]? = some o') (hr':recs[j]? = some r') (hij:i≠j)=>hC.pair i j o o' r r' ho hr ho' hr' hij
   have getr:∀ j o',ops[j]? = some o'→∃ r',recs[j]? = some r':=fun j o' ho'=>by
    have:=(List.getElem?_eq_some_iff.1 ho').1
    have:=hC.len
    exact ⟨_,List.getElem?_eq_getElem (by omega)⟩
   have getaff:∀ (j:Nat) (x':Eff),xs[j]? = some x'→∃ (o':Oper) (r':List Nat × List Nat),ops[j]? = some o'∧recs[j]? = some r'∧r'.2=affOf x':=fun j x' hx'=>by
    have hj:=(List.getElem?_eq_some_iff.1 hx').1
    obtain ⟨o',ho'⟩:∃ o',ops[j]? = some o':=⟨_,List.getElem?_eq_getElem (by omega)⟩
    obtain ⟨r',hr'⟩:=getr j o' ho'
    refine ⟨o',r',ho',hr',?_⟩
    rcases hrec j o' x' r' ho' hx' hr' with ⟨h,_,_⟩|⟨h,h',_⟩
    ·exact h
    ·rw [h,h'];rfl
   have eE:∀ t,(t∈usesOf ops o)→look (runU (usE ops xs) 0 (fun j=>decide (j<i)) E0) t=look (runU (usE ops xs) 0 (fun j=>listed.getD j false) E0) t:=fun t ht=>by
    refine runU_congr _ _ _ _ _ _ t (fun j v hj => ?_) rfl
    obtain ⟨o',ho',hd⟩:=usE_get hj
    rw [Nat.zero_add]
    obtain ⟨r',hr'⟩:=getr j o' ho'
    exact (hord j o' ho' fun hij=>(hpair j o' r' ho' hr' hij).2.1 ⟨t,ht,by rw [hd];exact List.mem_cons_self ..⟩).symm
   have eH:∀ n,(n∈r.1∨n∈dstL o.dst)→look (runU (usH xs) 0 (fun j=>decide (j<i)) H0) n=look (runU (usH xs) 0 (fun j=>listed.getD j false) H0) n:=fun n hn=>by
    refine runU_congr _ _ _ _ _ _ n (fun j v hj => ?_) rfl
    obtain ⟨x',hx',hn'⟩:=usH_get hj
    obtain ⟨o',r',ho',hr',e⟩:=getaff j x' hx'
    rw [Nat.zero_add]
    exact (hord j o' ho' fun hij=>(hpair j o' r' ho' hr' hij).2.2.1 ⟨n,hn,by rw [e];exact hn'⟩).symm
   have hAt:OpAt P Γ sz ops (look (runU (usE ops xs) 0 (fun j=>listed.getD j false) E0)) (look (runU (usH xs) 0 (fun j=>listed.getD j false) H0)) o x:=by
    rcases hrec i o x r ho hx hr with ⟨_,_,h,hn⟩|⟨_,hsk,hg,hd⟩
    ·exact opAt_congr eE (fun n h=>eH n (.inl (by rw [← hn];exact h))) (fun d h=>eH d (.inr h)) h
    ·refine .inr ⟨?_,hd,hsk⟩
     rw [← hg]
     congr 1
     exact (gv_congr fun t ht=>eE t (List.mem_append_left _ ht)).symm
   have hsingle:x.single=true:=by
    rcases hrec i o x r ho hx hr with ⟨_,hs,_⟩|⟨_,hsk,_⟩
    ·exact hs
    ·rw [hsk];rfl
   refine opAt_sound hΓ hdm R hAt ho fun ρ' a' w' R'=>ih _ a' w' (by simpa using hsz) ?_ (fun k ok hk hlk e he hb => ?_) ⟨ρ',?_⟩
   ·have hlt:i<listed.toList.length:=by simpa using his
    have:listed.toList[i]=false:=by simpa [his] using h1
    rw [Array.toList_setIfInBounds,List.countP_set hlt,hcnt,this]
    rfl
   ·by_cases hki:i=k
    ·subst hki
     have:ok=o:=by rw [ho] at hk;injection hk with hk;exact hk.symm
     subst this
     by_cases hei:i=e.on
     ·have:=hC.back i ok ho e he hb;omega
     ·rw [getD_set_ne false hei];exact hedge e he hb
    ·rw [getD_set_ne false hki] at hlk
     have h2:=hcl k ok hk hlk e he hb
     by_cases hei:i=e.on
     ·rw [← hei,hXi] at h2;cases h2
     ·rw [getD_set_ne false hei];exact h2
   ·rw [getD_set_same' his]
    have hzip:(usE ops xs)[i]? = some (updE o.dst x):=by
     unfold usE
     rw [List.getElem?_map,show (ops.zip xs)[i]? = some (o,x) from List.getElem?_zip_eq_some.2 ⟨ho,hx⟩];rfl
    refine R'.same (fun t y h => ?_) fun n => ?_
    ·rw [← h,apE_push]
     refine (runU_insert hzip (fun j k v v' hij hj hu => ?_) t).symm
     obtain ⟨o',ho',hd⟩:=usE_get hj
     obtain ⟨o'',ho'',hd'⟩:=usE_get (ops:=ops) (xs:=xs) (j:=i) (t:=k) (v:=v) (by rw [hzip,hu])
     have:o''=o:=by rw [ho] at ho'';injection ho'' with h;exact h.symm
     subst this
     obtain ⟨r',hr'⟩:=getr j o' ho'
     exact absurd (show k∈dstL o'.dst by rw [hd];exact List.mem_cons_self ..) ((hpair j o' r' ho' hr' (by omega)).1 k (by rw [hd'];exact List.mem_cons_self ..))
    ·rw [apH_push hsingle]
     have hH:(usH xs)[i]? = some (updH x):=by unfold usH;rw [List.getElem?_map,hx];rfl
     refine runU_insert hH (fun j k v v' hij hj hu => ?_) n
     obtain ⟨x',hx',hn'⟩:=usH_get hj
     obtain ⟨o',r',ho',hr',e⟩:=getaff j x' hx'
     obtain ⟨x'',hx'',hn''⟩:=usH_get (xs:=xs) (j:=i) (n:=k) (b:=v) (by rw [hH,hu])
     have:x''=x:=by rw [hx] at hx'';injection hx'' with h;exact h.symm
     subst this
     obtain ⟨o3,r3,ho3,hr3,e3⟩:=getaff i x'' hx
     have:r3=r:=by rw [hr] at hr3;injection hr3 with h;exact h.symm
     subst this
     exact hpost j o' ho' ((hpair j o' r' ho' hr' (by omega)).2.2.2 ⟨k,by rw [e3];exact hn'',by rw [e];exact hn'⟩ hij)
end
end Sx
end Go.Proofs.YtddbmpbihpkabaaGreat

namespace Go.Proofs.YtddbmpbihpkabaaGreat
open Go Go.RowKit
namespace Sx
def Boxes (P:Program) (t:TypeId):Prop:=∃ td,P.underlying t=some td∧∀ y,td≠.interface y
def allD:List At→Option (List D)
 | []=>some []
 | .d x::l=>match allD l with|some r=>some (x::r)|none=>none
 | _::_=>none
def capsX (h:Nat→Option Blk):List Nat→Option (List (List D))
 | []=>some []
 | n::r=>match h n with
  | some (.own cs)=>match allD cs,capsX h r with|some ds,some rs=>some (ds::rs)|_,_=>none
  | _=>none
def ifpL:List At→Option (List (TypeId × Nat × Nat))
 | []=>some []
 | .ifp t n o::l=>match ifpL l with|some r=>some ((t,n,o)::r)|none=>none
 | _::_=>none
def dedupN:List (TypeId × Nat × Nat)→List Nat
 | []=>[]
 | (_,n,_)::l=>match memB n (dedupN l) with|true=>dedupN l|false=>n::dedupN l
def idxN (n:Nat):List Nat→Nat
 | []=>0
 | m::l=>match Nat.beq m n with|true=>0|false=>idxN n l+1
def tsI (dn:List Nat):List (TypeId × Nat × Nat)→List (TypeId × Nat × Nat)
 | []=>[]
 | (t,n,o)::l=>(t,idxN n dn,o)::tsI dn l
def ifsL (e:Nat→Option SV):Nat→List (Nat × Operand)→Option (List At)
 | _,[]=>some []
 | j,(i,y)::ps=>match Nat.beq i j,ev e y with
  | true,some (.c (.at (.ifp t n o)))=>match ifsL e (j+1) ps with
   | some r=>some (.ifp t n o::r)
   | none=>none
  | _,_=>none
def ptV (bs:List Nat) (t:TypeId × Nat × Nat):Value:=.iface t.1 (.pointer (some ⟨bs.getD t.2.1 0,t.2.2,none⟩))
def FnPtr (P:Program) (f:Nat) (args:List DC) (ts:List (TypeId × Nat × Nat)) (cs:List (List D)) (r:DV) (cs':List (List D)):Prop :=
 cs'.length=cs.length∧∀ (w:World) (M:Nat→Prop) (vs:List Value) (bs:List Nat) (nb:Nat),Lo w M→bs.length=cs.length→bs.Nodup→(∀ b∈bs,M b)→nb ∉ bs→M nb→DCsR w M args vs →
  (∀ (i b:Nat) (ds:List D),bs[i]? = some b→cs[i]? = some ds→∃ us,CellsAt w b us∧DsR w M ds us)→CellsAt w nb (ts.map (ptV bs)) →
  ∃ g,(callFunc f (vs++[Value.slice (some ⟨nb,0,none⟩) ts.length ts.length]).toArray).run P w=.ok (.enter g (vs++[Value.slice (some ⟨nb,0,none⟩) ts.length ts.length]).toArray) w ∧
   Calls P g (vs++[Value.slice (some ⟨nb,0,none⟩) ts.length ts.length]).toArray w fun e w'=>∃ v,e=.returned v∧DVR w' M r v∧BelowC (fun b=>b∈bs∨b=w.heap.size) w.heap.size w w' ∧
    ∀ (i b:Nat) (ds:List D),bs[i]? = some b→cs'[i]? = some ds→∃ us,CellsAt w' b us∧DsR w' M ds us
def FnMuA (P:Program) (f k:Nat) (l:List (List D)) (args:List DC) (p:List (List D)→Prop):Prop :=
 ∀ (w:World) (M:Nat→Prop) (v:Value) (vs:List Value) (m:Nm),Lo w M→(0<m.cap→M m.b)→DCsR w M args vs→BlkR (fun _=>m) w M m (.row k l m.ver)→(∃ x,v=.slice x m.len m.cap∧(0<m.cap→x=some ⟨m.b,0,none⟩)) →
  ∃ g,(callFunc f (v::vs).toArray).run P w=.ok (.enter g (v::vs).toArray) w∧Calls P g (v::vs).toArray w fun e w'=>e=.returned (.tuple #[])∧BelowC (fun b=>0<m.cap∧b=m.b) w.heap.size w w' ∧
   ∃ l',p l'∧(∀ e∈l',flatL e=true)∧BlkR (fun _=>m) w' M m (.row k l' m.ver)
inductive XR where
 | ob (p:Prop) (x:Eff)
 | ex (p:DV→List (List D)→Prop) (x:DV→List (List D)→Eff)
 | all (q:(List (List D)→Prop)→Prop) (x:List (List D)→Eff)
def XR.run:XR→(Eff→Prop)→Prop
 | .ob p x,k=>p∧k x
 | .ex p x,k=>∃ a b,p a b∧k (x a b)
 | .all q x,k=>∃ p,q p∧∀ a,p a→k (x a)
def callX (P:Program) (Γ:Cfg) (sz:Nat) (dst:Option Nat) (f:Nat) (vals:List (Option SV)) (h:Nat→Option Blk):Option XR :=
 match vals with
 | some (.c (.at (.d (.list k l))))::some (.c (.at (.asl n len)))::[]=>match h n with
  | some (.own cells)=>match ifpL cells with
   | some ts=>match capsX h (dedupN ts),nodB (dedupN ts),memB n (dedupN ts) with
    | some cs,true,false=>match Γ.dm,dst,Nat.beq len ts.length with
     | false,some d,true=>match Nat.blt d sz with
      | true=>some (.ex (fun r cs'=>FnPtr P f [.one (.list k l)] (tsI (dedupN ts) ts) cs r cs') fun r cs'=>.many (zipB (dedupN ts) cs') (embV r))
      | false=>none
     | _,_,_=>none
    | _,_,_=>none
   | none=>none
  | _=>none
 | some (.c (.at (.osl n v)))::r=>match memB f Γ.mu,memB f Γ.co with
  | true,true=>match h n,argsOf h r,dst with
   | some (.row k l v'),some args,some d=>match Nat.beq v v',Nat.blt d sz with
    | true,true=>some (.all (fun p=>FnMuA P f k l args p) fun l'=>.new n (.row k l' v') (.tup []))
    | _,_=>none
   | _,_,_=>none
  | _,_=>none
 | _=>none
def stepX (P:Program) (Γ:Cfg) (sz:Nat) (o:Oper) (e:Nat→Option SV) (h:Nat→Option Blk):Option XR :=
 match o.op with
 | .makeInterface t y=>match ev e y,o.dst with
  | some (.c (.at (.ptr n off))),some d=>match Nat.blt d sz with
   | true=>some (.ob (Boxes P t) (.val (.c (.at (.ifp t n off)))))
   | false=>none
  | _,_=>none
 | .buildSlice t len ps=>match ifsL e 0 ps.toList,o.dst,look Γ.ty t with
  | some (a::l),some d,some (.sl ek _ _)=>match Nat.beq (l.length+1) len,Nat.blt d sz,Nat.beq ek 1,Nat.ble len 1000 with
   | true,true,true,true=>match h d with
    | none=>some (.ob True (.new d (.own (a::l)) (.c (.at (.asl d len)))))
    | some _=>none
   | _,_,_,_=>none
  | _,_,_=>none
 | .call c=>match c.callee with
  | .value fo=>match ev e fo with
   | some (.c (.at (.fn f [])))=>callX P Γ sz o.dst f (c.args.toList.map (ev e)) h
   | _=>none
  | _=>none
 | _=>none
section
variable {P:Program} {C M0:Nat→Prop} {w0 w:World} {sz:Nat} {ρ:Nat→Nm} {E:Env} {H:Hp} {a:Act} {o:Oper} {x:Eff} {Γ:Cfg}
theorem st_mkI (R:Rel C M0 w0 sz ρ E H a w) {t:TypeId} {y:Operand} {n off:Nat} (ho:o.op=.makeInterface t y) (he:ev (look E) y=some (.c (.at (.ptr n off)))) (hb:Boxes P t) {d:Nat} (hd:o.dst=some d) (hlt:d<sz) :
  StepOK P C M0 w0 sz E H o (.val (.c (.at (.ifp t n off)))) a w:=by
 obtain ⟨⟨h1,h2⟩,h3⟩:=ev_ok R he
 obtain ⟨td,ht,hn⟩:=hb
 have e:∀ u,(Instr.makeInterface t u).run P w=.ok (.iface t u) w:=fun u=>by
  unfold Instr.makeInterface
  rw [Sem.run_bind,run_underlying ht]
  cases td<;>first|exact absurd rfl (hn _)|(simp [go_sem])
 refine ok_val R (v:=.iface t (a.eval y)) ?_ hd hlt ⟨h1,by rw [h2]⟩ (fun m hm=>h3 m (by simpa [SV.names,SC.names,At.names] using hm))
 simp [execOp,ho,e,Result.andThen]
theorem fill_ats (R:Rel C M0 w0 sz ρ E H a w):∀ (ps:List (Nat × Operand)) (j:Nat) (cs:Array Value) (l:List At),ifsL (look E) j ps=some l→j+l.length≤cs.size →
  ∃ (cs':Array Value) (us:List Value),Instr.fill (fun i=>some (i*1,1)) cs (ps.map fun p=>(p.1,a.eval p.2))=some cs'∧cs'.toList=cs.toList.take j++us++cs.toList.drop (j+l.length)∧AtsR ρ w (Mof M0 ρ H) l us∧us.length=l.length∧∀ n∈namesA l,(look H n).isSome=true
 | [],j,cs,l,h,hsz=>by
  simp only [ifsL,Option.some.injEq] at h
  subst h
  exact ⟨cs,[],rfl,by simp,trivial,rfl,by simp [namesA]⟩
 | (i,y)::ps,j,cs,l,h,hsz=>by
  unfold ifsL at h
  split at h
  ·rename_i t n off hij hy
   split at h
   ·rename_i r hr
    injection h with h
    subst h
    have hij:i=j:=by simpa using hij
    subst hij
    obtain ⟨⟨h1,h2⟩,h3⟩:=ev_ok R hy
    simp only [List.length_cons] at hsz
    obtain ⟨cs',us,e1,e2,e3,e4,e5⟩:=fill_ats R ps (i+1) (cs.setIfInBounds i (a.eval y)) r hr (by simp;omega)
    refine ⟨cs',a.eval y::us,?_,?_,⟨⟨h1,h2⟩,e3⟩,by rw [List.length_cons,e4,List.length_cons],?_⟩
    ·have hc:(a.eval y).cells=#[a.eval y]:=by rw [h2];rfl
     have hfold:((a.eval y).cells.zipIdx.foldl (fun cs (p:Value × Nat)=>cs.setIfInBounds (i*1+p.2) p.1) cs)=cs.setIfInBounds i (a.eval y):=by
      rw [hc];simp
     simp only [List.map_cons,Instr.fill]
     rw [if_neg (by rw [hc];simp;omega),hfold]
     exact e1
    ·rw [e2,Array.toList_setIfInBounds,List.length_cons]
     have hi:i<cs.toList.length:=by rw [Array.length_toList];omega
     have t1:(cs.toList.set i (a.eval y)).take (i+1)=cs.toList.take i++[a.eval y]:=by
      rw [List.take_succ_eq_append_getElem (by simpa using hi),List.take_set_of_le (Nat.le_refl _),List.getElem_set_self]
     have t2:(cs.toList.set i (a.eval y)).drop (i+1+r.length)=cs.toList.drop (i+(r.length+1)):=by
      rw [List.drop_set_of_lt (by omega)]
      congr 1;omega
     rw [t1,t2]
     simp
    ·intro m hm
     simp only [namesA,List.flatMap_cons,List.mem_append] at hm
     rcases hm with hm|hm
     ·exact h3 m (by simpa [SV.names,SC.names,At.names] using hm)
     ·exact e5 m hm
   ·cases h
  ·cases h
theorem st_buildP (R:Rel C M0 w0 sz ρ E H a w) {t len:Nat} {ea:Bool} {zl:List D} (ht:TyOK P t (.sl 1 ea zl)) {ps:Array (Nat × Operand)} (ho:o.op=.buildSlice t len ps) {l:List At} (hb:ifsL (look E) 0 ps.toList=some l) (hl:l.length=len) (h1:1≤len) (h3:len≤1000)
  {d:Nat} (hd:o.dst=some d) (hlt:d<sz) (hf:look H d=none):StepOK P C M0 w0 sz E H o (.new d (.own l) (.c (.at (.asl d len)))) a w:=by
 obtain ⟨e,he,hsz,_,⟨z,hz,hzs⟩,_⟩:=ht.2.2.2
 subst hl
 obtain ⟨cs',us,e1,e2,e3,e4,e5⟩:=fill_ats R ps.toList 0 ((Array.range (l.length*1)).map (z.cells[· % z.cells.size]!)) l hb (by simp)
 have e2:cs'.toList=us:=by
  rw [e2]
  simp
 have hp:(ps.map fun (i,x)=>(i,a.eval x)).toList=ps.toList.map fun p=>(p.1,a.eval p.2):=by simp
 have hpos:¬ l.length*1=0:=by omega
 have hcs:cs'=us.toArray:=by rw [← e2]
 have hrun:(execOp a.eval o).run P w=.ok (.value (.slice (some ⟨w.heap.size,0,none⟩) l.length l.length)) (w.alloc (.cells us.toArray e)):=by
  have hsm:¬ l.length*1 > 2 ^ 24:=by omega
  rw [← hcs]
  simp only [execOp,ho,Sem.run_bind,Instr.buildSlice,run_underlying_of he,hsz,Result.andThen_ok,if_neg hsm,if_neg hpos,hz,Sem.run_pure,hp,e1,newRow,run_newObj_alloc]
 refine ok_run (ρ':=upd ρ d ⟨true,w.heap.size,0,0,0⟩) hrun ?_
 rw [hd]
 exact R.new hlt hlt hf e3 (fun m hm=>e5 m hm) (fun ρ' w' M' e=>⟨by rw [e],by rw [e]⟩) (fun m hm=>by simpa [SV.names,SC.names,At.names] using hm)
theorem allD_rel {M:Nat→Prop}:∀ {l:List At} {r:List D} {us:List Value},allD l=some r→AtsR ρ w M l us→DsR w M r us
 | [],r,[],h,k=>by simp [allD] at h;subst h;trivial
 | [],r,_::_,h,k=>k.elim
 | .d y::l,r,[],h,k=>k.elim
 | .d y::l,r,u::us,h,k=>by
  simp only [allD] at h
  split at h
  ·rename_i r' hr'
   injection h with h
   subst h
   exact ⟨k.1,allD_rel hr' k.2⟩
  ·cases h
theorem capsX_get {h:Nat→Option Blk}:∀ {caps:List Nat} {cs:List (List D)},capsX h caps=some cs→cs.length=caps.length∧∀ (i n:Nat) (ds:List D),caps[i]? = some n→cs[i]? = some ds→∃ cells,h n=some (.own cells)∧allD cells=some ds
 | [],cs,hc=>by
  simp [capsX] at hc
  subst hc
  exact ⟨rfl,fun i n ds h1 h2=>by simp at h1⟩
 | m::r,cs,hc=>by
  simp only [capsX] at hc
  split at hc
  ·rename_i cells hm
   split at hc
   ·rename_i ds0 rs hds hrs
    injection hc with hc
    subst hc
    obtain ⟨k1,k2⟩:=capsX_get hrs
    refine ⟨by rw [List.length_cons,k1,List.length_cons],fun i n ds h1 h2 => ?_⟩
    cases i with
    | zero =>
     simp at h1 h2
     subst h1 h2
     exact ⟨cells,hm,hds⟩
    | succ i=>exact k2 i n ds (by simpa using h1) (by simpa using h2)
   ·cases hc
  ·cases hc
theorem idxN_get {n:Nat}:∀ {l:List Nat},n∈l→l[idxN n l]? = some n
 | [],h=>by cases h
 | m::l,h=>by
  unfold idxN
  split
  ·rename_i e
   have e:m=n:=by simpa using e
   subst e;rfl
  ·rename_i e
   have e:m≠n:=fun h=>by rw [h,Nat.beq_refl] at e;cases e
   rcases List.mem_cons.1 h with rfl|h
   ·exact absurd rfl e
   ·simpa using idxN_get h
theorem memB_mem {n:Nat} {l:List Nat} (h:memB n l=true):n∈l:=by
 induction l with
 | nil=>simp [memB] at h
 | cons m l ih =>
  simp only [memB] at h
  split at h
  ·rename_i e
   have e:n=m:=Nat.eq_of_beq_eq_true e
   subst e;exact List.mem_cons_self ..
  ·exact List.mem_cons_of_mem _ (ih h)
theorem dedup_mem:∀ {ts:List (TypeId × Nat × Nat)} {t:TypeId × Nat × Nat},t∈ts→t.2.1∈dedupN ts
 | (a,n,b)::l,t,h=>by
  unfold dedupN
  rcases List.mem_cons.1 h with rfl|h
  ·split
   ·rename_i e;exact memB_mem e
   ·exact List.mem_cons_self ..
  ·have:=dedup_mem h
   split
   ·exact this
   ·exact List.mem_cons_of_mem _ this
theorem ifp_vals {ts0 dn:List Nat} {M:Nat→Prop}:∀ {l:List At} {ts:List (TypeId × Nat × Nat)} {us:List Value},ifpL l=some ts→(∀ t∈ts,t.2.1∈dn)→AtsR ρ w M l us→us=(tsI dn ts).map (ptV (dn.map fun n=>(ρ n).b))∧(tsI dn ts).length=ts.length
 | [],ts,[],h,_,k=>by simp [ifpL] at h;subst h;exact ⟨rfl,rfl⟩
 | [],ts,_::_,h,_,k=>k.elim
 | .ifp t n off::l,ts,[],h,_,k=>k.elim
 | .ifp t n off::l,ts,u::us,h,hd,k=>by
  simp only [ifpL] at h
  split at h
  ·rename_i r' hr'
   injection h with h
   subst h
   obtain ⟨⟨k1,k2⟩,k3⟩:=k
   obtain ⟨e1,e2⟩:=ifp_vals (ts0:=ts0) hr' (fun t ht=>hd t (List.mem_cons_of_mem _ ht)) k3
   have hn:=idxN_get (hd _ (List.mem_cons_self ..))
   refine ⟨?_,by simp only [tsI,List.length_cons,e2]⟩
   simp only [tsI,List.map_cons]
   rw [← e1,k2]
   unfold ptV
   simp only [List.getD_eq_getElem?_getD,List.getElem?_map]
   simp only at hn
   rw [hn]
   rfl
  ·cases h
theorem st_callPtr (R:Rel C M0 w0 sz ρ E H a w) {c:Call} {f n len k:Nat} {l:List (List D)} {fo y z:Operand} {cells:List At} {ts:List (TypeId × Nat × Nat)} {cs cs':List (List D)} {r:DV} (ho:o.op=.call c) (hc:c.callee=.value fo)
  (hf:ev (look E) fo=some (.c (.at (.fn f [])))) (hargs:c.args.toList=[y,z]) (hy:ev (look E) y=some (.c (.at (.d (.list k l))))) (hz:ev (look E) z=some (.c (.at (.asl n len)))) (hn:look H n=some (.own cells)) (hts:ifpL cells=some ts) (hcs:capsX (look H) (dedupN ts)=some cs) (hnd:nodB (dedupN ts)=true) (hnn:n ∉ dedupN ts)
  (hlen:len=ts.length) (hp:FnPtr P f [.one (.list k l)] (tsI (dedupN ts) ts) cs r cs') (hdm:C w0.heap.size) {d:Nat} (hd:o.dst=some d) (hlt:d<sz):StepOK P C M0 w0 sz E H o (.many (zipB (dedupN ts) cs') (embV r)) a w:=by
 have hfv:a.eval fo=.func (.func f) #[] ([]:List Value).toArray:=by
  have:=(ev_ok R hf).1.2
  simpa using this
 obtain ⟨hz1,hz2⟩:=(ev_ok R hz).1
 have hyv:Rep w (Mof M0 ρ H) (.list k l) (a.eval y):=(ev_ok R hy).1
 obtain ⟨k1,k2⟩:=capsX_get hcs
 obtain ⟨us,hus,hat⟩:=(R.blk n _ hn).2 rfl
 obtain ⟨e1,e2⟩:=ifp_vals (ts0:=[]) hts (fun t ht=>dedup_mem ht) hat
 subst e1
 have hcap:∀ m∈dedupN ts,∃ cells,look H m=some (.own cells):=fun m hm=>by
  obtain ⟨i,hi,rfl⟩:=List.getElem_of_mem hm
  obtain ⟨cells,h1,_⟩:=k2 i (dedupN ts)[i] (cs[i]'(by omega)) (List.getElem?_eq_getElem hi) (List.getElem?_eq_getElem (by omega))
  exact ⟨cells,h1⟩
 intro next Q hnx
 unfold Oper.wp
 rw [exec_call ho hc hfv,List.append_nil,hargs,List.map_cons,List.map_cons,List.map_nil,hz2,hlen,← e2]
 obtain ⟨g,hg,hcall⟩:=hp.2 w (Mof M0 ρ H) [a.eval y] ((dedupN ts).map fun n=>(ρ n).b) (ρ n).b R.mlo (by simpa using k1.symm)
  (by
   refine List.pairwise_map.2 (List.Pairwise.imp_of_mem (fun {x y} hx hy hne e => ?_) (nodB_iff hnd))
   obtain ⟨c1,h1⟩:=hcap x hx
   obtain ⟨c2,h2⟩:=hcap y hy
   exact hne (R.inj x y _ _ h1 h2 rfl rfl e))
  (fun b hb=>by
   obtain ⟨m,hm,rfl⟩:=List.mem_map.1 hb
   obtain ⟨c1,h1⟩:=hcap m hm
   exact .inr ⟨m,_,h1,rfl,rfl⟩)
  (fun hb=>by
   obtain ⟨m,hm,e⟩:=List.mem_map.1 hb
   obtain ⟨c1,h1⟩:=hcap m hm
   have:=R.inj m n _ _ h1 hn rfl rfl e
   subst this
   exact hnn hm) (.inr ⟨n,_,hn,rfl,rfl⟩) ⟨hyv,trivial⟩
  (fun i b ds hb hds=>by
   rw [List.getElem?_map] at hb
   cases hm:(dedupN ts)[i]? with
   | none=>rw [hm] at hb;cases hb
   | some m =>
    rw [hm] at hb
    injection hb with hb
    subst hb
    obtain ⟨cells,h1,h2⟩:=k2 i m ds hm hds
    obtain ⟨us,h3,h4⟩:=(R.blk m _ h1).2 rfl
    exact ⟨us,h3,allD_rel h2 h4⟩) hus
 simp only [List.cons_append,List.nil_append] at hg hcall
 rw [hg,Oper.upon_enter]
 refine hcall.mono ?_
 rintro e w' ⟨v,rfl,hv,hB,hcells⟩
 refine hnx ρ v w' ?_
 obtain ⟨R',hMM⟩:=R.puts (B:=zipB (dedupN ts) cs') (w':=w') hcap (fun m x hx=>by
   obtain ⟨i,ds,h1,h2,rfl⟩:=look_zipB hx
   exact ⟨List.mem_of_getElem? h1,ds,rfl,hcells i _ ds (by rw [List.getElem?_map,h1];rfl) h2⟩) (fun m hm=>zipB_some (by rw [hp.1];exact k1.symm) hm) hB.os hB.tape hB.output hB.size (.inl hdm)
  (fun k hk hne=>hB.block k hk fun h=>by
   rcases h with h|h
   ·obtain ⟨m,hm,e⟩:=List.mem_map.1 h
    exact hne m hm e.symm
   ·omega)
 rw [hd]
 exact R'.val (dst:=some d) (x:=embV r) (fun d' h=>by injection h with h;omega) (SVR.mono (.refl _ _) (fun k _ h=>hMM k h) (DVR.emb hv)) embV_names
theorem st_callA (R:Rel C M0 w0 sz ρ E H a w) {c:Call} {f:Nat} {fo y:Operand} {ys:List Operand} {n v k:Nat} {l:List (List D)} {args:List DC} {p:List (List D)→Prop} (ho:o.op=.call c) (hc:c.callee=.value fo)
  (hf:ev (look E) fo=some (.c (.at (.fn f [])))) (hys:c.args.toList=y::ys) (hy:ev (look E) y=some (.c (.at (.osl n v)))) (hb:look H n=some (.row k l v)) (ha:argsOf (look H) (ys.map (ev (look E)))=some args) (hmu:FnMuA P f k l args p) {d:Nat} (hd:o.dst=some d) (hlt:d<sz)
  {next:Act→World→Prop} {Q:Exit→Act→World→Prop} (hn:∀ l',p l'→∀ ρ' u w',Rel C M0 w0 sz ρ' (apE o.dst (.new n (.row k l' v) (.tup [])) E) (apH (.new n (.row k l' v) (.tup [])) H) (a.put o.dst u) w'→next (a.put o.dst u) w'):o.wp P a w next Q:=by
 have hfv:a.eval fo=.func (.func f) #[] ([]:List Value).toArray:=by
  have:=(ev_ok R hf).1.2
  simpa using this
 obtain ⟨x,e1,e2,e3,e4,e5,e6,e7⟩:=osl_val R hy hb
 have hB:=R.blk n _ hb
 have hreal:∀ l,(Blk.row k l v).real (ρ n)=true→0<(ρ n).cap:=fun l h=>by simpa [Blk.real] using h
 have hreal':∀ l,0<(ρ n).cap→(Blk.row k l v).real (ρ n)=true:=fun l h=>by simpa [Blk.real] using h
 have hsub:∀ b,b<w.heap.size→(0<(ρ n).cap∧b=(ρ n).b)→Mof M0 ρ H b:=fun b _ h=>.inr ⟨n,_,hb,hreal' _ h.1,h.2.symm⟩
 have hargs:=argsOf_rel R (M':=fun b=>0<(ρ n).cap∧b=(ρ n).b) hsub (fun _ _ h=>h) (fun _ m cs hm he=>by
  have:m=n:=R.inj m n _ _ hm hb rfl (hreal' _ he.1) he.2
  subst this
  rw [hb] at hm;cases hm) ha
 unfold Oper.wp
 rw [exec_call ho hc hfv,List.append_nil,hys,List.map_cons,e1]
 obtain ⟨g,hg,hcall⟩:=hmu w (fun b=>0<(ρ n).cap∧b=(ρ n).b) (.slice x l.length (ρ n).cap) _ (ρ n) ⟨fun b h=>by rw [h.2];exact R.hi n _ hb (hreal' _ h.1),R.gdw,fun b h=>by rw [h.2];exact (R.lo n _ hb (hreal' _ h.1)).elim (Nat.le_trans (gd_size R.out.gd)) (fun h=>R.out.gc _ h.1)⟩ (fun h=>⟨h,rfl⟩) hargs
  (by
   obtain ⟨k1,k2⟩:=hB
   rw [e7]
   refine ⟨k1.mono (.refl _ w) hsub,fun hr => ?_⟩
   obtain ⟨cs,hcs,hC⟩:=k2 hr
   exact ⟨cs,hcs,(hC.mono (.refl _ w) hsub).rename (ρ':=fun _=>ρ n) (fun n hn=>by simp [Blk.names] at hn)⟩) ⟨x,by rw [e3],e2⟩
 rw [hg,Oper.upon_enter]
 refine hcall.mono ?_
 rintro e w' ⟨rfl,hBel,l',hp',hfl,hB'⟩
 refine hn l' hp' (upd ρ n (ρ n)) (.tuple #[]) w' ?_
 have R':=R.known (n:=n) (b0:=.row k l v) (b:=.row k l' v) (m:=ρ n) (w':=w') hb (.inl rfl) hBel.os hBel.tape hBel.output hBel.size (hBel.drawn.elim (fun h=>absurd (R.hi n _ hb (hreal' _ h.1)) (by rw [← h.2];omega)) .inr)
  (fun k hk h=>hBel.block k hk fun ⟨h1,h2⟩=>h (hreal' _ h1) h2) (fun hr=>.inl ⟨hreal' _ (hreal _ hr),rfl⟩)
  (fun h1 h2=>by
   obtain ⟨k1,k2⟩:=hB'
   rw [e7] at k1 k2
   refine ⟨k1,fun hr => ?_⟩
   obtain ⟨cs,hcs,c1,c2,c3,vs,rest,c4,c5⟩:=k2 hr
   exact ⟨cs,hcs,c1,c2,c3,vs,rest,c4,flatL_rel (flat_flatten hfl) c5⟩) (by simp [Blk.names])
 rw [hd]
 exact R'.val (dst:=some d) (x:=.tup []) (fun d' h=>by injection h with h;omega) ⟨[],rfl,trivial⟩ (fun m hm=>by simp [SV.names,namesC] at hm)
theorem memB_not {n:Nat} {l:List Nat} (h:memB n l=false):n ∉ l:=by
 induction l with
 | nil=>simp
 | cons m l ih =>
  simp only [memB] at h
  split at h
  ·cases h
  ·rename_i e
   intro hm
   rcases List.mem_cons.1 hm with rfl|hm
   ·simp at e
   ·exact ih h hm
theorem callX_sound (hdm:Γ.dm=false→C w0.heap.size) (R:Rel C M0 w0 sz ρ E H a w) {c:Call} {f:Nat} {fo:Operand} (ho:o.op=.call c) (hc:c.callee=.value fo) (hf:ev (look E) fo=some (.c (.at (.fn f [])))) {r:XR} (h:callX P Γ sz o.dst f (c.args.toList.map (ev (look E))) (look H)=some r)
  {k:Eff→Prop} (hk:r.run k) {next:Act→World→Prop} {Q:Exit→Act→World→Prop} (hn:∀ x,k x→∀ ρ' v w',Rel C M0 w0 sz ρ' (apE o.dst x E) (apH x H) (a.put o.dst v) w'→next (a.put o.dst v) w'):o.wp P a w next Q:=by
 unfold callX at h
 split at h
 ·rename_i kk l n len hv
  split at h
  ·rename_i cells hcells
   split at h
   ·rename_i ts hts
    split at h
    ·rename_i cs hcs hnd hmm
     split at h
     ·rename_i d hdm' hd hlen
      split at h
      ·rename_i hlt
       injection h with h
       subst h
       obtain ⟨rr,cs',hp,hk⟩:=hk
       match hargs:c.args.toList,hv with
       | [_],hv=>simp at hv
       | _::_::_::_,hv=>simp at hv
       | [y,z],hv =>
        simp only [List.map_cons,List.map_nil,List.cons.injEq,and_true] at hv
        exact st_callPtr R ho hc hf hargs hv.1 hv.2 hcells hts hcs hnd (memB_not hmm) (by simpa using hlen) hp (hdm hdm') hd (by simpa using hlt) next Q (fun ρ' v w' R'=>hn _ hk ρ' v w' R')
      ·cases h
     ·cases h
    ·cases h
   ·cases h
  ·cases h
 ·rename_i n v r' hv
  split at h
  ·split at h
   ·rename_i kk l v' args d hb har hd
    split at h
    ·rename_i hvv hlt
     injection h with h
     subst h
     obtain ⟨p,hp,hk⟩:=hk
     have hvv:v=v':=by simpa using hvv
     subst hvv
     match hargs:c.args.toList,hv with
     | y::ys,hv =>
      simp only [List.map_cons,List.cons.injEq] at hv
      obtain ⟨h1,h2⟩:=hv
      subst h2
      exact st_callA R ho hc hf hargs h1 hb har hp hd (by simpa using hlt) (fun l' hl' ρ' u w' R'=>hn _ (hk l' hl') ρ' u w' R')
    ·cases h
   ·cases h
  ·cases h
 ·cases h
theorem stepX_sound (hΓ:ΓOK P Γ) (hdm:Γ.dm=false→C w0.heap.size) (R:Rel C M0 w0 sz ρ E H a w) {r:XR} (h:stepX P Γ sz o (look E) (look H)=some r) {k:Eff→Prop} (hk:r.run k) {next:Act→World→Prop} {Q:Exit→Act→World→Prop}
  (hn:∀ x,k x→∀ ρ' v w',Rel C M0 w0 sz ρ' (apE o.dst x E) (apH x H) (a.put o.dst v) w'→next (a.put o.dst v) w'):o.wp P a w next Q:=by
 unfold stepX at h
 split at h
 ·rename_i t y ho
  split at h
  ·rename_i n off d he hd
   split at h
   ·rename_i hlt
    injection h with h
    subst h
    exact st_mkI R ho he hk.1 hd (by simpa using hlt) next Q (fun ρ' v w' R'=>hn _ hk.2 ρ' v w' R')
   ·cases h
  ·cases h
 ·rename_i t len ps ho
  split at h
  ·rename_i b l d ek ea zl hb hd hty
   split at h
   ·rename_i hl hlt hek h3
    split at h
    ·rename_i hf
     injection h with h
     subst h
     have hek:ek=1:=by simpa using hek
     subst hek
     have hl:l.length+1=len:=by simpa using hl
     exact st_buildP R (hΓ _ _ hty) ho hb (by simpa using hl) (by omega) (Nat.le_of_ble_eq_true h3) hd (by simpa using hlt) hf next Q (fun ρ' v w' R'=>hn _ hk.2 ρ' v w' R')
    ·cases h
   ·cases h
  ·cases h
 ·rename_i c ho
  split at h
  ·rename_i fo hc
   split at h
   ·rename_i f hf
    exact callX_sound hdm R ho hc hf h hk hn
   ·cases h
  ·cases h
 ·cases h
end
end Sx
end Go.Proofs.YtddbmpbihpkabaaGreat
