import Derived.Test.YtddbmpbihpkabaaGreatGLGPartsAJ
import Derived.ScopeJumps
import Derived.Test.YtddbmpbihpkabaaGreatGLGPartsAA
import Derived.Deep.Slices
import Derived.Deep.Strs
import Derived.ChangeSame
set_option linter.all false
namespace Go.Proofs.YtddbmpbihpkabaaGreat
open Go Go.RowKit
namespace Sx
section
variable {P:Program} {C M0:Nat→Prop} {w0 w:World} {sz:Nat} {ρ:Nat→Nm} {E:Env} {H:Hp} {a:Act} {Γ:Cfg}
def curA (H:Hp):At→Bool
 | .osl n v=>match look H n with|some (.row _ _ v')=>Nat.beq v v'|_=>false
 | .rp n v _ _ _=>match look H n with|some (.row _ _ v')=>Nat.beq v v'|_=>false
 | _=>true
def curAs (H:Hp):List At→Bool
 | []=>true
 | a::l=>match curA H a with|true=>curAs H l|false=>false
def curC (H:Hp):SC→Bool
 | .at a=>curA H a
 | .agg l=>curAs H l
def curCs (H:Hp):List SC→Bool
 | []=>true
 | a::l=>match curC H a with|true=>curCs H l|false=>false
def curS (H:Hp):SV→Bool
 | .c x=>curC H x
 | .tup l=>curCs H l
def zA:At→At
 | .osl n _=>.osl n 0
 | .rp n _ k i o=>.rp n 0 k i o
 | .d x=>.d x
 | .ptr n o=>.ptr n o
 | .ep a b c d=>.ep a b c d
 | .fn f c=>.fn f c
 | .ifp t n o=>.ifp t n o
 | .asl n l=>.asl n l
 | .zsl n=>.zsl n
def zC:SC→SC
 | .at a=>.at (zA a)
 | .agg l=>.agg (l.map zA)
def zS:SV→SV
 | .c x=>.c (zC x)
 | .tup l=>.tup (l.map zC)
def curB (H:Hp):Blk→Bool
 | .own cells=>curAs H cells
 | _=>true
def zB:Blk→Blk
 | .own cells=>.own (cells.map zA)
 | .row k l _=>.row k l 0
 | .frz=>.frz
def lookZ (H:Hp) (E:Env) (t:Nat):Option SV:=match look E t with|some x=>(match curS H x with|true=>some (zS x)|false=>none)|none=>none
def lookZH (H:Hp) (n:Nat):Option Blk:=match look H n with|some x=>(match curB H x with|true=>some (zB x)|false=>none)|none=>none
def entZE (H:Hp) (E:Env):Env→Prop
 | []=>True
 | (t,x)::r=>lookZ H E t=some x∧entZE H E r
def entZH (H:Hp):Hp→Prop
 | []=>True
 | (n,b)::r=>lookZH H n=some b∧entZH H r
structure EntZ (E:Env) (H:Hp) (E':Env) (H':Hp):Prop where
 env:entZE H E E'
 hp:entZH H H'
 cl:clB E' H'=true
theorem entZE_look {H:Hp} {E:Env}:∀ {E':Env},entZE H E E'→∀ t x,look E' t=some x→lookZ H E t=some x
 | [],_,t,x,h=>by simp [look] at h
 | (k,y)::r,he,t,x,h=>by
  rw [look_cons] at h
  split at h
  ·rename_i e;injection h with h;subst e h;exact he.1
  ·exact entZE_look he.2 t x h
theorem entZH_look {H:Hp}:∀ {H':Hp},entZH H H'→∀ t x,look H' t=some x→lookZH H t=some x
 | [],_,t,x,h=>by simp [look] at h
 | (k,y)::r,he,t,x,h=>by
  rw [look_cons] at h
  split at h
  ·rename_i e;injection h with h;subst e h;exact he.1
  ·exact entZH_look he.2 t x h
theorem curA_rel (R:Rel C M0 w0 sz ρ E H a w) {M':Nat→Prop} (hM:∀ b,b<w.heap.size→M' b→Mof M0 ρ H b) {s:At} {v:Value} (h:curA H s=true) (k:AtR ρ w (Mof M0 ρ H) s v):AtR (fun n=>zv (ρ n)) w M' (zA s) v:=by
 cases s with
 | d x=>exact Rep.mono k (.refl _ w) hM
 | ptr n o=>exact k
 | ep a b c d=>exact AtR.mono (a:=.ep a b c d) (.refl _ w) hM k
 | fn f c=>exact k
 | ifp t n o=>exact k
 | asl n l=>exact k
 | zsl n=>exact k
 | osl n ver =>
  simp only [curA] at h
  split at h
  ·rename_i kk l v' hb
   have hv:ver=v':=by simpa using h
   subst hv
   obtain ⟨e1,e2,e3,e4⟩:=k
   exact ⟨e1,e2,Nat.le_refl _,fun _=>e4 (R.blk n _ hb).1.2.2.2.1.symm⟩
  ·cases h
 | rp n ver kk i o =>
  simp only [curA] at h
  split at h
  ·rename_i k' l v' hb
   have hv:ver=v':=by simpa using h
   subst hv
   obtain ⟨e1,e2,e3,e4⟩:=k
   exact ⟨e1,e2,Nat.le_refl _,fun _=>e4 (R.blk n _ hb).1.2.2.2.1.symm⟩
  ·cases h
theorem curAs_rel (R:Rel C M0 w0 sz ρ E H a w) {M':Nat→Prop} (hM:∀ b,b<w.heap.size→M' b→Mof M0 ρ H b):∀ {l:List At} {vs:List Value},curAs H l=true→AtsR ρ w (Mof M0 ρ H) l vs→AtsR (fun n=>zv (ρ n)) w M' (l.map zA) vs
 | [],[],_,_=>trivial
 | s::l,v::vs,h,k=>by
  simp only [curAs] at h
  split at h
  ·rename_i hs;exact ⟨curA_rel R hM hs k.1,curAs_rel R hM h k.2⟩
  ·cases h
 | [],_::_,_,k=>k.elim
 | _::_,[],_,k=>k.elim
theorem curC_rel (R:Rel C M0 w0 sz ρ E H a w) {M':Nat→Prop} (hM:∀ b,b<w.heap.size→M' b→Mof M0 ρ H b) {s:SC} {v:Value} (h:curC H s=true) (k:SCR ρ w (Mof M0 ρ H) s v):SCR (fun n=>zv (ρ n)) w M' (zC s) v:=by
 cases s with
 | «at» s=>exact curA_rel R hM h k
 | agg l=>obtain ⟨vs,e,k⟩:=k;exact ⟨vs,e,curAs_rel R hM h k⟩
theorem curCs_rel (R:Rel C M0 w0 sz ρ E H a w) {M':Nat→Prop} (hM:∀ b,b<w.heap.size→M' b→Mof M0 ρ H b):∀ {l:List SC} {vs:List Value},curCs H l=true→SCsR ρ w (Mof M0 ρ H) l vs→SCsR (fun n=>zv (ρ n)) w M' (l.map zC) vs
 | [],[],_,_=>trivial
 | s::l,v::vs,h,k=>by
  simp only [curCs] at h
  split at h
  ·rename_i hs;exact ⟨curC_rel R hM hs k.1,curCs_rel R hM h k.2⟩
  ·cases h
 | [],_::_,_,k=>k.elim
 | _::_,[],_,k=>k.elim
theorem curS_rel (R:Rel C M0 w0 sz ρ E H a w) {M':Nat→Prop} (hM:∀ b,b<w.heap.size→M' b→Mof M0 ρ H b) {s:SV} {v:Value} (h:curS H s=true) (k:SVR ρ w (Mof M0 ρ H) s v):SVR (fun n=>zv (ρ n)) w M' (zS s) v:=by
 cases s with
 | c s=>exact curC_rel R hM h k
 | tup l=>obtain ⟨vs,e,k⟩:=k;exact ⟨vs,e,curCs_rel R hM h k⟩
theorem real_z {b:Blk} {m:Nm}:(zB b).real (zv m)=b.real m:=by cases b<;>rfl
theorem Rel.entZ {E':Env} {H':Hp} (R:Rel C M0 w0 sz ρ E H a w) (h:EntZ E H E' H'):Rel C M0 w0 sz (fun n=>zv (ρ n)) E' H' a w:=by
 have hc:=h.cl
 simp only [clB,Bool.and_eq_true,List.all_eq_true,keysB] at hc
 have hE:∀ t x,look E' t=some x→∃ x0,look E t=some x0∧curS H x0=true∧zS x0=x:=fun t x hx=>by
  have:=entZE_look h.env t x hx
  unfold lookZ at this
  split at this
  ·rename_i x0 h0
   split at this
   ·rename_i hcur;injection this with this;exact ⟨x0,h0,hcur,this⟩
   ·cases this
  ·cases this
 have hH:∀ n b,look H' n=some b→∃ b0,look H n=some b0∧curB H b0=true∧zB b0=b:=fun n b hb=>by
  have:=entZH_look h.hp n b hb
  unfold lookZH at this
  split at this
  ·rename_i x0 h0
   split at this
   ·rename_i hcur;injection this with this;exact ⟨x0,h0,hcur,this⟩
   ·cases this
  ·cases this
 have hM:∀ k,k<w.heap.size→Mof M0 (fun n=>zv (ρ n)) H' k→Mof M0 ρ H k:=by
  rintro k _ (h|⟨m,x,hm,hr,e⟩)
  ·exact .inl h
  ·obtain ⟨b0,h1,_,rfl⟩:=hH m x hm
   exact .inr ⟨m,b0,h1,by rw [← real_z];exact hr,e⟩
 refine ⟨R.below,R.out,fun t y hy => ?_,fun m c hm hr => ?_,fun m c hm hr => ?_,fun m c hm => ?_,fun m m' c c' hm hm' hr hr' e => ?_,R.defers,R.size,R.pin,fun t x hx n hn=>hc.1 (t,x) (look_mem hx) n hn,fun n b hb m hm=>hc.2 (n,b) (look_mem hb) m hm⟩
 ·obtain ⟨x0,h1,h2,rfl⟩:=hE t y hy
  exact curS_rel R hM h2 (R.env t x0 h1)
 ·obtain ⟨b0,h1,_,rfl⟩:=hH m c hm
  exact R.lo m b0 h1 (by rw [← real_z];exact hr)
 ·obtain ⟨b0,h1,_,rfl⟩:=hH m c hm
  exact R.hi m b0 h1 (by rw [← real_z];exact hr)
 ·obtain ⟨b0,h1,h2,rfl⟩:=hH m c hm
  obtain ⟨hs,hcl⟩:=R.blk m b0 h1
  cases b0 with
  | own cells =>
   refine ⟨trivial,fun _ => ?_⟩
   obtain ⟨cs,h3,h4⟩:=hcl rfl
   exact ⟨cs,h3,curAs_rel R hM h2 h4⟩
  | row k l v =>
   obtain ⟨k1,k2,k3,k4,k5⟩:=hs
   refine ⟨⟨k1,k2,k3,rfl,k5⟩,fun hr => ?_⟩
   obtain ⟨cs,h3,c1,c2,c3,vs,rest,c4,c5⟩:=hcl hr
   exact ⟨cs,h3,c1,c2,c3,vs,rest,c4,c5.mono (.refl _ w) hM⟩
  | frz=>exact ⟨trivial,fun hr=>by simp [Blk.real,zB] at hr⟩
 ·obtain ⟨b0,h1,_,rfl⟩:=hH m c hm
  obtain ⟨b1,h2,_,rfl⟩:=hH m' c' hm'
  exact R.inj m m' b0 b1 h1 h2 (by rw [← real_z];exact hr) (by rw [← real_z];exact hr') e
theorem loop_I (hm:P.follows .mixedOrders=true) (hΓ:ΓOK P Γ) {σ:Type} (st:σ→Env × Hp) (I:σ→Prop) (μ:σ→Nat) {body:Code} {k:Exit→Env→Hp→Prop} (s0:σ) (i0:I s0) (h0:EntZ E H (st s0).1 (st s0).2)
  (hr:∀ s,I s→code P Γ sz body (st s).1 (st s).2 (fun ex E' H'=>match ex with|.normal=>∃ s',I s'∧EntZ E' H' (st s').1 (st s').2∧μ s'<μ s|ex=>k ex E' H')):LoopP P sz Γ.dm body E H k:=by
 refine ⟨fun C M0 w0 ρ a w Q hdm R hQ => ?_⟩
 refine wp_loopG (fun n a w=>∃ s ρ,I s∧μ s=n∧Rel C M0 w0 sz ρ (st s).1 (st s).2 a w) (n:=μ s0) ⟨s0,_,i0,rfl,R.entZ h0⟩ ?_
 rintro n a w ⟨s,ρ,hI,rfl,R⟩
 refine code_sound hm hΓ hdm body _ _ _ (hr s hI) ρ a w _ R fun ex E' H' ρ' a' w' hk R' => ?_
 cases ex with
 | normal =>
  obtain ⟨s',h0,h1,h2⟩:=hk
  exact ⟨_,h2,s',_,h0,rfl,R'.entZ h1⟩
 | _=>exact hQ _ _ _ _ _ _ hk R'
def cvA (ns:List Nat) (H:Hp):At→At
 | .osl n v=>match memB n ns with
  | true=>match look H n with
   | some (.row k l v')=>match Nat.beq v v' with|true=>.d (.list k l)|false=>.osl n v
   | _=>.osl n v
  | false=>.osl n v
 | .d x=>.d x
 | .ptr n o=>.ptr n o
 | .rp a b c d e=>.rp a b c d e
 | .ep a b c d=>.ep a b c d
 | .fn f c=>.fn f c
 | .ifp t n o=>.ifp t n o
 | .asl n l=>.asl n l
 | .zsl n=>.zsl n
def cvC (ns:List Nat) (H:Hp):SC→SC
 | .at a=>.at (cvA ns H a)
 | .agg l=>.agg (l.map (cvA ns H))
def cvS (ns:List Nat) (H:Hp):SV→SV
 | .c x=>.c (cvC ns H x)
 | .tup l=>.tup (l.map (cvC ns H))
def cvB (ns:List Nat) (H:Hp) (n:Nat):Blk→Blk
 | .own cells=>.own (cells.map (cvA ns H))
 | .row k l v=>match memB n ns with|true=>.frz|false=>.row k l v
 | .frz=>.frz
def cvE (ns:List Nat) (H:Hp) (E:Env):Env:=E.map fun p=>(p.1,cvS ns H p.2)
def cvH (ns:List Nat) (H:Hp):Hp:=H.map fun p=>(p.1,cvB ns H p.1 p.2)
theorem look_map {α β:Type} {f:Nat→α→β}:∀ {l:List (Nat × α)} {t:Nat},look (l.map fun p=>(p.1,f p.1 p.2)) t=(look l t).map (f t)
 | [],t=>rfl
 | (k,x)::r,t=>by
  rw [List.map_cons,look_cons,look_cons]
  split
  ·rename_i e;simp only at e;subst e;rfl
  ·exact look_map
theorem cvA_names {ns:List Nat} {s:At}:∀ n∈(cvA ns H s).names,n∈s.names:=by
 intro n hn
 cases s with
 | osl m v =>
  simp only [cvA] at hn
  split at hn
  ·split at hn
   ·split at hn
    ·simp [At.names] at hn
    ·exact hn
   ·exact hn
  ·exact hn
 | _=>exact hn
theorem cvAs_names {ns:List Nat} {l:List At}:∀ n∈namesA (l.map (cvA ns H)),n∈namesA l:=by
 intro n hn
 simp only [namesA,List.mem_flatMap,List.mem_map] at *
 obtain ⟨_,⟨s,h1,rfl⟩,h2⟩:=hn
 exact ⟨s,h1,cvA_names n h2⟩
theorem cvC_names {ns:List Nat} {s:SC}:∀ n∈(cvC ns H s).names,n∈s.names:=by
 cases s with
 | «at» s=>exact cvA_names
 | agg l=>exact cvAs_names
theorem cvS_names {ns:List Nat} {s:SV}:∀ n∈(cvS ns H s).names,n∈s.names:=by
 cases s with
 | c s=>exact cvC_names
 | tup l =>
  intro n hn
  simp only [cvS,SV.names,namesC,List.mem_flatMap,List.mem_map] at *
  obtain ⟨_,⟨s,h1,rfl⟩,h2⟩:=hn
  exact ⟨s,h1,cvC_names n h2⟩
section
variable {ns:List Nat} {M':Nat→Prop}
theorem cvA_rel (R:Rel C M0 w0 sz ρ E H a w) (hM:∀ b,b<w.heap.size→M' b→Mof M0 ρ H b) (hn:∀ n k l v,memB n ns=true→look H n=some (.row k l v)→0<(ρ n).cap→¬ M' (ρ n).b) {s:At} {v:Value} (k:AtR ρ w (Mof M0 ρ H) s v):AtR ρ w M' (cvA ns H s) v:=by
 cases s with
 | osl n ver =>
  simp only [cvA]
  split
  ·rename_i hmem
   split
   ·rename_i kk l v' hb
    split
    ·rename_i hv
     have hv:ver=v':=by simpa using hv
     subst hv
     obtain ⟨e1,e2,e3,e4⟩:=k
     have hB:=R.blk n _ hb
     exact row_data hB (e4 hB.1.2.2.2.1.symm) hM (hn n kk l ver hmem hb) (fun h=>R.hi n _ hb (by simpa [Blk.real] using h))
    ·exact AtR.mono (a:=.osl n ver) (.refl _ w) hM k
   ·exact AtR.mono (a:=.osl n ver) (.refl _ w) hM k
  ·exact AtR.mono (a:=.osl n ver) (.refl _ w) hM k
 | d x=>exact Rep.mono k (.refl _ w) hM
 | ptr n o=>exact k
 | rp n ver kk i o=>exact k
 | ep a b c d=>exact AtR.mono (a:=.ep a b c d) (.refl _ w) hM k
 | fn f c=>exact k
 | ifp t n o=>exact k
 | asl n l=>exact k
 | zsl n=>exact k
theorem cvAs_rel (R:Rel C M0 w0 sz ρ E H a w) (hM:∀ b,b<w.heap.size→M' b→Mof M0 ρ H b) (hn:∀ n k l v,memB n ns=true→look H n=some (.row k l v)→0<(ρ n).cap→¬ M' (ρ n).b):∀ {l:List At} {vs:List Value},AtsR ρ w (Mof M0 ρ H) l vs→AtsR ρ w M' (l.map (cvA ns H)) vs
 | [],[],_=>trivial
 | s::l,v::vs,k=>⟨cvA_rel R hM hn k.1,cvAs_rel R hM hn k.2⟩
 | [],_::_,k=>k.elim
 | _::_,[],k=>k.elim
theorem cvC_rel (R:Rel C M0 w0 sz ρ E H a w) (hM:∀ b,b<w.heap.size→M' b→Mof M0 ρ H b) (hn:∀ n k l v,memB n ns=true→look H n=some (.row k l v)→0<(ρ n).cap→¬ M' (ρ n).b) {s:SC} {v:Value} (k:SCR ρ w (Mof M0 ρ H) s v):SCR ρ w M' (cvC ns H s) v:=by
 cases s with
 | «at» s=>exact cvA_rel R hM hn k
 | agg l=>obtain ⟨vs,e,k⟩:=k;exact ⟨vs,e,cvAs_rel R hM hn k⟩
theorem cvCs_rel (R:Rel C M0 w0 sz ρ E H a w) (hM:∀ b,b<w.heap.size→M' b→Mof M0 ρ H b) (hn:∀ n k l v,memB n ns=true→look H n=some (.row k l v)→0<(ρ n).cap→¬ M' (ρ n).b):∀ {l:List SC} {vs:List Value},SCsR ρ w (Mof M0 ρ H) l vs→SCsR ρ w M' (l.map (cvC ns H)) vs
 | [],[],_=>trivial
 | s::l,v::vs,k=>⟨cvC_rel R hM hn k.1,cvCs_rel R hM hn k.2⟩
 | [],_::_,k=>k.elim
 | _::_,[],k=>k.elim
theorem cvS_rel (R:Rel C M0 w0 sz ρ E H a w) (hM:∀ b,b<w.heap.size→M' b→Mof M0 ρ H b) (hn:∀ n k l v,memB n ns=true→look H n=some (.row k l v)→0<(ρ n).cap→¬ M' (ρ n).b) {s:SV} {v:Value} (k:SVR ρ w (Mof M0 ρ H) s v):SVR ρ w M' (cvS ns H s) v:=by
 cases s with
 | c s=>exact cvC_rel R hM hn k
 | tup l=>obtain ⟨vs,e,k⟩:=k;exact ⟨vs,e,cvCs_rel R hM hn k⟩
end
theorem Rel.cv (R:Rel C M0 w0 sz ρ E H a w) (ns:List Nat):Rel C M0 w0 sz ρ (cvE ns H E) (cvH ns H) a w:=by
 have lE:∀ t,look (cvE ns H E) t=(look E t).map (cvS ns H):=fun t=>look_map (f:=fun _ x=>cvS ns H x)
 have lH:∀ n,look (cvH ns H) n=(look H n).map (cvB ns H n):=fun n=>look_map (f:=fun n x=>cvB ns H n x)
 have gH:∀ n b,look (cvH ns H) n=some b→∃ b0,look H n=some b0∧cvB ns H n b0=b:=fun n b hb=>by
  rw [lH] at hb
  cases h:look H n with
  | none=>rw [h] at hb;cases hb
  | some b0=>rw [h] at hb;injection hb with hb;exact ⟨b0,rfl,hb⟩
 have hreal:∀ n b0,(cvB ns H n b0).real (ρ n)=true→b0.real (ρ n)=true:=fun n b0 h=>by
  cases b0 with
  | own c=>rfl
  | row k l v =>
   simp only [cvB] at h
   split at h
   ·simp [Blk.real] at h
   ·exact h
  | frz=>exact h
 have hM:∀ b,b<w.heap.size→Mof M0 ρ (cvH ns H) b→Mof M0 ρ H b:=by
  rintro b _ (h|⟨m,x,hm,hr,e⟩)
  ·exact .inl h
  ·obtain ⟨b0,h1,rfl⟩:=gH m x hm
   exact .inr ⟨m,b0,h1,hreal m b0 hr,e⟩
 have hn:∀ n k l v,memB n ns=true→look H n=some (.row k l v)→0<(ρ n).cap→¬ Mof M0 ρ (cvH ns H) (ρ n).b:=fun n k l v hmem hb hc=>by
  have hr:(Blk.row k l v).real (ρ n)=true:=by simpa [Blk.real] using hc
  rintro (h|⟨m,x,hm,hr',e⟩)
  ·have h1:=R.out _ h
   rcases R.lo n _ hb hr with h2|h2
   ·omega
   ·rw [(R.blk n _ hb).1.2.2.2.2] at h2;cases h2.2
  ·obtain ⟨b0,h1,rfl⟩:=gH m x hm
   have:m=n:=R.inj m n b0 _ h1 hb (hreal m b0 hr') hr e
   subst this
   rw [hb] at h1
   injection h1 with h1
   subst h1
   simp only [cvB,hmem] at hr'
   simp [Blk.real] at hr'
 have sm:∀ n,(look H n).isSome=true→(look (cvH ns H) n).isSome=true:=fun n h=>by rw [lH];simpa using h
 refine ⟨R.below,R.out,fun t y hy => ?_,fun m c hm hr => ?_,fun m c hm hr => ?_,fun m c hm => ?_,fun m m' c c' hm hm' hr hr' e => ?_,R.defers,R.size,R.pin,fun t x hx n hnn => ?_,fun n b hb m hm => ?_⟩
 ·rw [lE] at hy
  cases h:look E t with
  | none=>rw [h] at hy;cases hy
  | some x0 =>
   rw [h] at hy;injection hy with hy;subst hy
   exact cvS_rel R hM hn (R.env t x0 h)
 ·obtain ⟨b0,h1,rfl⟩:=gH m c hm
  exact R.lo m b0 h1 (hreal m b0 hr)
 ·obtain ⟨b0,h1,rfl⟩:=gH m c hm
  exact R.hi m b0 h1 (hreal m b0 hr)
 ·obtain ⟨b0,h1,rfl⟩:=gH m c hm
  obtain ⟨hs,hcl⟩:=R.blk m b0 h1
  cases b0 with
  | own cells =>
   refine ⟨trivial,fun _ => ?_⟩
   obtain ⟨cs,h3,h4⟩:=hcl rfl
   exact ⟨cs,h3,cvAs_rel R hM hn h4⟩
  | row k l v =>
   simp only [cvB]
   split
   ·exact ⟨trivial,fun hr=>by simp [Blk.real] at hr⟩
   ·refine ⟨hs,fun hr => ?_⟩
    obtain ⟨cs,h3,c1,c2,c3,vs,rest,c4,c5⟩:=hcl hr
    exact ⟨cs,h3,c1,c2,c3,vs,rest,c4,c5.mono (.refl _ w) hM⟩
  | frz=>exact ⟨trivial,fun hr=>by simp [Blk.real,cvB] at hr⟩
 ·obtain ⟨b0,h1,rfl⟩:=gH m c hm
  obtain ⟨b1,h2,rfl⟩:=gH m' c' hm'
  exact R.inj m m' b0 b1 h1 h2 (hreal m b0 hr) (hreal m' b1 hr') e
 ·rw [lE] at hx
  cases h:look E t with
  | none=>rw [h] at hx;cases hx
  | some x0 =>
   rw [h] at hx;injection hx with hx;subst hx
   exact sm n (R.clE t x0 h n (cvS_names n hnn))
 ·obtain ⟨b0,h1,rfl⟩:=gH n b hb
  cases b0 with
  | own cells=>exact sm m (R.clH n _ h1 m (cvAs_names m hm))
  | row k l v =>
   simp only [cvB] at hm
   split at hm<;>simp [Blk.names] at hm
  | frz=>simp [Blk.names,cvB] at hm
def frcEnv:Env→(Env→Prop)→Prop
 | [],k=>k []
 | (t,x)::r,k=>frcS x fun x=>frcEnv r fun r=>k ((t,x)::r)
theorem frcEnv_iff:∀ (E:Env) (k:Env→Prop),frcEnv E k↔k E
 | [],k=>Iff.rfl
 | (t,x)::r,k=>by simp only [frcEnv];rw [frcS_iff,frcEnv_iff r]
def cvK (ns:List Nat) (E:Env) (H:Hp) (k:Env→Hp→Prop):Prop:=frcEnv (cvE ns H E) fun E1=>frcHs (cvH ns H) fun H1=>k E1 H1
theorem cvK_iff (ns:List Nat) (E:Env) (H:Hp) (k:Env→Hp→Prop):cvK ns E H k↔k (cvE ns H E) (cvH ns H):=by
 unfold cvK;rw [frcEnv_iff,frcHs_iff]
theorem loop_frz (ns:List Nat) {dm:Bool} {body:Code} {k:Exit→Env→Hp→Prop} (h:LoopP P sz dm body E H (fun ex E' H'=>cvK ns E' H' fun E1 H1=>k ex E1 H1)):LoopP P sz dm body E H k :=
 ⟨fun C M0 w0 ρ a w Q hdm R hQ=>h.run C M0 w0 ρ a w Q hdm R fun ex E' H' ρ' a' w' hk R'=>hQ ex _ _ ρ' a' w' ((cvK_iff ns E' H' _).1 hk) (R'.cv ns)⟩
def nmB:Blk→Nat→Nat→Option (Nat × Blk)
 | .own l,j,n=>match nmA l j n with|some (k,l')=>some (k,.own l')|none=>none
 | _,_,_=>none
theorem loop_nameH (m j n:Nat) {dm:Bool} {body:Code} {k:Exit→Env→Hp→Prop} {b b':Blk} {kk:Nat} (hx:look H m=some b) (hn:nmB b j n=some (kk,b')) (hf:look H n=none) (h:LoopP P sz dm body E ((m,b')::(n,.row kk [] 0)::H) k) (hlt:Nat.ble (n+1) 1000=true:=by rfl):LoopP P sz dm body E H k:=by
 refine ⟨fun C M0 w0 ρ a w Q hdm R hQ=>h.run C M0 w0 (upd ρ n ⟨false,0,0,0,0⟩) a w Q hdm ?_ hQ⟩
 have R1:=R.nameRow (k:=kk) hf (.inr (.inl (Nat.le_of_ble_eq_true hlt)))
 have hmn:m≠n:=fun e=>by rw [e,hf] at hx;cases hx
 have hlk:look ((n,Blk.row kk [] 0)::H) m=some b:=by rw [look_cons,if_neg (fun e=>hmn e.symm)];exact hx
 unfold nmB at hn
 split at hn
 ·rename_i l
  split at hn
  ·rename_i k1 l1 h2
   simp only [Option.some.injEq,Prod.mk.injEq] at hn
   obtain ⟨rfl,rfl⟩:=hn
   obtain ⟨cs,hcs,hC⟩:=(R1.blk m _ hlk).2 rfl
   obtain ⟨h3,h4⟩:=nmA_rel (w:=w) h2 (upd_same _ _ _) hC
   have hMeq:∀ b,Mof M0 (upd ρ n ⟨false,0,0,0,0⟩) ((m,.own l1)::(n,.row k1 [] 0)::H) b→Mof M0 (upd ρ n ⟨false,0,0,0,0⟩) ((n,.row k1 [] 0)::H) b:=by
    rintro b (h|⟨i,x,hi,hr,e⟩)
    ·exact .inl h
    ·rw [look_cons] at hi
     split at hi
     ·rename_i e';subst e';exact .inr ⟨m,_,hlk,rfl,e⟩
     ·exact .inr ⟨i,x,hi,hr,e⟩
   have hR:=R1.known (b:=.own l1) (m:=upd ρ n ⟨false,0,0,0,0⟩ m) (w':=w) hlk (.inl rfl) rfl rfl rfl (Nat.le_refl _) (.inr (Nat.le_refl _)) (fun _ _ _=>rfl) (fun _=>.inl ⟨rfl,rfl⟩)
    (fun g1 g2=>⟨trivial,fun _=>⟨cs,hcs,by rw [upd_self];exact AtsR.mono (.refl _ w) (fun b _=>hMeq b) h3⟩⟩) (fun i hi=>by
     rcases h4 i hi with h|h
     ·exact R1.clH m _ hlk i h
     ·rw [h,look_cons,if_pos rfl];rfl)
   rwa [upd_self] at hR
  ·cases hn
 ·cases hn
structure RoundsP (P:Program) (sz n:Nat) (dm:Bool) (body:Code) (E:Env) (H:Hp) (k:Exit→Env→Hp→Prop):Prop where
 run:∀ (C M0:Nat→Prop) (w0:World) (ρ:Nat→Nm) (a:Act) (w:World) (Q:Exit→Act→World→Prop),(dm=false→C w0.heap.size)→Rel C M0 w0 sz ρ E H a w →
  (∀ ex E' H' ρ' a' w',k ex E' H'→Rel C M0 w0 sz ρ' E' H' a' w'→Q ex a' w')→Code.rounds P body Q n a w
def allB (K:List Nat):List Nat→Bool
 | []=>true
 | n::l=>match memB n K with|true=>allB K l|false=>false
def fE (K:List Nat):List Nat→Env→Env
 | _,[]=>[]
 | D,(t,x)::r=>match memB t D with
  | true=>fE K D r
  | false=>match allB K x.names with|true=>(t,x)::fE K (t::D) r|false=>fE K (t::D) r
def fH (K:List Nat):List Nat→Hp→Hp
 | _,[]=>[]
 | D,(t,x)::r=>match memB t D with
  | true=>fH K D r
  | false=>match memB t K && allB K x.names with|true=>(t,x)::fH K (t::D) r|false=>fH K (t::D) r
theorem fE_look (K:List Nat):∀ (E:Env) (D:List Nat) (t:Nat) (x:SV),look (fE K D E) t=some x→t ∉ D∧look E t=some x
 | [],D,t,x,h=>by simp [fE,look] at h
 | (k,y)::r,D,t,x,h=>by
  simp only [fE] at h
  split at h
  ·rename_i hm
   obtain ⟨h1,h2⟩:=fE_look K r D t x h
   refine ⟨h1,?_⟩
   rw [look_cons,if_neg (by rintro rfl;exact h1 (memB_iff.1 hm))]
   exact h2
  ·rename_i hm
   have hm':k ∉ D:=fun h'=>by rw [memB_iff.2 h'] at hm;cases hm
   split at h
   ·rw [look_cons] at h
    split at h
    ·rename_i e
     subst e
     injection h with h
     subst h
     exact ⟨hm',by rw [look_cons,if_pos rfl]⟩
    ·rename_i e
     obtain ⟨h1,h2⟩:=fE_look K r _ t x h
     exact ⟨fun h'=>h1 (List.mem_cons_of_mem _ h'),by rw [look_cons,if_neg e];exact h2⟩
   ·obtain ⟨h1,h2⟩:=fE_look K r _ t x h
    refine ⟨fun h'=>h1 (List.mem_cons_of_mem _ h'),?_⟩
    rw [look_cons,if_neg (by rintro rfl;exact h1 (List.mem_cons_self ..))]
    exact h2
theorem fH_look (K:List Nat):∀ (E:Hp) (D:List Nat) (t:Nat) (x:Blk),look (fH K D E) t=some x→t ∉ D∧look E t=some x
 | [],D,t,x,h=>by simp [fH,look] at h
 | (k,y)::r,D,t,x,h=>by
  simp only [fH] at h
  split at h
  ·rename_i hm
   obtain ⟨h1,h2⟩:=fH_look K r D t x h
   refine ⟨h1,?_⟩
   rw [look_cons,if_neg (by rintro rfl;exact h1 (memB_iff.1 hm))]
   exact h2
  ·rename_i hm
   have hm':k ∉ D:=fun h'=>by rw [memB_iff.2 h'] at hm;cases hm
   split at h
   ·rw [look_cons] at h
    split at h
    ·rename_i e
     subst e
     injection h with h
     subst h
     exact ⟨hm',by rw [look_cons,if_pos rfl]⟩
    ·rename_i e
     obtain ⟨h1,h2⟩:=fH_look K r _ t x h
     exact ⟨fun h'=>h1 (List.mem_cons_of_mem _ h'),by rw [look_cons,if_neg e];exact h2⟩
   ·obtain ⟨h1,h2⟩:=fH_look K r _ t x h
    refine ⟨fun h'=>h1 (List.mem_cons_of_mem _ h'),?_⟩
    rw [look_cons,if_neg (by rintro rfl;exact h1 (List.mem_cons_self ..))]
    exact h2
theorem Rel.keep (R:Rel C M0 w0 sz ρ E H a w) (K:List Nat) (h:clB (fE K [] E) (fH K [] H)=true):Rel C M0 w0 sz ρ (fE K [] E) (fH K [] H) a w:=by
 simp only [clB,Bool.and_eq_true,List.all_eq_true,keysB] at h
 exact R.less (fun t x hx=>(fE_look K E [] t x hx).2) (fun n b hb=>(fH_look K H [] n b hb).2) (fun t x hx n hn=>h.1 (t,x) (look_mem hx) n hn) (fun n b hb m hm=>h.2 (n,b) (look_mem hb) m hm)
structure CodeP (P:Program) (sz:Nat) (dm:Bool) (c:Code) (E:Env) (H:Hp) (k:Exit→Env→Hp→Prop):Prop where
 run:∀ (C M0:Nat→Prop) (w0:World) (ρ:Nat→Nm) (a:Act) (w:World) (Q:Exit→Act→World→Prop),(dm=false→C w0.heap.size)→Rel C M0 w0 sz ρ E H a w →
  (∀ ex E' H' ρ' a' w',k ex E' H'→Rel C M0 w0 sz ρ' E' H' a' w'→Q ex a' w')→c.wp P Q a w
end
end Sx
end Go.Proofs.YtddbmpbihpkabaaGreat

namespace Go.Proofs.YtddbmpbihpkabaaGreat
open Go Go.RowKit
namespace Sx
class BC (c:Bool) (p q:outParam Prop):Prop where
 t:c=true↔p
 f:c=false↔q
class BL (b:Bool):Prop where
 ok:b=b
instance:BL true:=⟨rfl⟩
instance:BL false:=⟨rfl⟩
instance bc_decide {p:Prop} [Decidable p]:BC (decide p) p (¬ p):=⟨decide_eq_true_iff,decide_eq_false_iff_not⟩
instance bc_eq {a b:Int}:BC (a == b) (a=b) (a≠b):=⟨beq_iff_eq,beq_eq_false_iff_ne⟩
instance bc_ne {a b:Int}:BC (a != b) (a≠b) (a=b):=⟨bne_iff_ne,bne_eq_false_iff_eq⟩
instance bc_beq {a b:Bool} [BL a] [BL b]:BC (a == b) (a=b) (a≠b):=⟨beq_iff_eq,beq_eq_false_iff_ne⟩
instance bc_bne {a b:Bool} [BL a] [BL b]:BC (a != b) (a≠b) (a=b):=⟨bne_iff_ne,bne_eq_false_iff_eq⟩
instance bc_lit {b:Bool} [BL b]:BC b (b=true) (b=false):=⟨Iff.rfl,Iff.rfl⟩
instance bc_not {c:Bool} {p q:Prop} [h:BC c p q]:BC (!c) q p:=⟨by rw [← h.f];cases c<;>simp,by rw [← h.t];cases c<;>simp⟩
theorem bc_t {c:Bool} {p q A B:Prop} [h:BC c p q] (e:p) (k:A):br c A B:=br_t' (h.t.2 e) k
theorem bc_f {c:Bool} {p q A B:Prop} [h:BC c p q] (e:q) (k:B):br c A B:=br_f' (h.f.2 e) k
theorem bc {c:Bool} {p q A B:Prop} [h:BC c p q] (k1:p→A) (k2:q→B):br c A B:=br_i (fun e=>k1 (h.t.1 e)) fun e=>k2 (h.f.1 e)
theorem xi {α:Sort _} {p q:α→Prop} {a:α} (h:p a) (k:q a):∃ a,p a∧q a:=⟨a,h,k⟩
theorem xm {P:Program} {f k:Nat} {l:List (List D)} {args:List DC} {l':List (List D)} {q:List (List D)→Prop} (h:FnMu P f k l args l') (g:q l'):∃ l',FnMu P f k l args l'∧q l':=⟨l',h,g⟩
theorem xg {l:List (List D)} {i n:Nat} {q:List D→Prop} {e:List D} (h:l[i]? = some e) (hn:Nat.ble n e.length=true) (k:q e):∃ a,(l[i]? = some a∧n≤a.length)∧q a:=⟨e,⟨h,Nat.le_of_ble_eq_true hn⟩,k⟩
theorem za {P:Program} {f:Nat} {args:List DC} {r:DV} {k:DV→Prop} (q:k r) (h:FnOK P f args r:=by assumption):∃ r,FnOK P f args r∧k r:=⟨r,h,q⟩
theorem zd {P:Program} {f:Nat} {args:List DC} {r:DV} {k:DV→Prop} (q:k r) (h:FnD P f args r:=by assumption):∃ r,FnD P f args r∧k r:=⟨r,h,q⟩
theorem zb {P:Program} {f:Nat} {args:List DC} {r:DV} {k:DV→Prop} (q:k r) (h:FnOK P f args r:=by assumption) (e:flatV r=true:=by exact rfl):∃ r,FnB P f args r∧k r:=⟨r,⟨e,h⟩,q⟩
theorem zo {P:Program} {f:Nat} {args:List DC} {r:OwnR} {k:OwnR→Prop} (q:k r) (h:FnOwn P f args r:=by assumption):∃ r,FnOwn P f args r∧k r:=⟨r,h,q⟩
theorem zm {P:Program} {f k:Nat} {l:List (List D)} {args:List DC} {l':List (List D)} {q:List (List D)→Prop} (g:q l') (h:FnMu P f k l args l':=by assumption):∃ l',FnMu P f k l args l'∧q l':=⟨l',h,g⟩
theorem zc {P:Program} {f k:Nat} {l:List (List D)} {args:List DC} {l':List (List D)} {q:List (List D)→Prop} (g:q l') (h:FnCon P f k l args l':=by assumption):∃ l',FnCon P f k l args l'∧q l':=⟨l',h,g⟩
theorem ze {P:Program} {f:Nat} {args:List DC} {cs cs':List (List D)} {r:DV} {q:DV→List (List D)→Prop} (g:q r cs') (h:FnMem P f args cs r cs':=by assumption):∃ r cs',FnMem P f args cs r cs'∧q r cs':=⟨r,cs',h,g⟩
theorem zl {P:Program} {f:Nat} {args:List DC} {r:DV} {k:DV→Prop} (q:k r) (h:FnOK P f args r:=by assumption) (e:flaV r=true:=by exact rfl):∃ r,FnL P f args r∧k r:=⟨r,⟨e,h⟩,q⟩
theorem zp {c:Bool} {p q A B:Prop} [h:BC c p q] (k:A) (e:p:=by first|omega|decide):br c A B:=bc_t e k
theorem zq {c:Bool} {p q A B:Prop} [h:BC c p q] (k:B) (e:q:=by first|omega|decide):br c A B:=bc_f e k
theorem zk {P:Program} {f g:Nat} {args:List DC} {cs:List D} {q:OwnR→Prop} (k:q ⟨.tup [],0,0,g,[cs]⟩) (h:FnClo P f args g cs:=by assumption):∃ r:OwnR,FnClo P f args r.k (r.l.headD [])∧q r:=⟨⟨.tup [],0,0,g,[cs]⟩,h,k⟩
theorem zg {l:List (List D)} {i n:Nat} {q:List D→Prop} {e:List D} (k:q e) (h:l[i]? = some e:=by assumption) (hn:Nat.ble n e.length=true:=by exact rfl):∃ a,(l[i]? = some a∧n≤a.length)∧q a:=⟨e,⟨h,Nat.le_of_ble_eq_true hn⟩,k⟩
theorem zt {b:Bool} {A B:Prop} (h:A) (e:b=true:=by assumption):br b A B:=br_t' e h
theorem zf {b:Bool} {A B:Prop} (h:B) (e:b=false:=by assumption):br b A B:=br_f' e h
theorem zi {A B:Prop} (k:B) (h:A:=by first|kernel_rfl|omega|(simp only [List.length_append,List.length_cons,List.length_nil,List.length_map,List.length_take,List.length_replicate];omega)|decide):A∧B:=⟨h,k⟩
section
variable {P:Program} {C M0:Nat→Prop} {w0 w:World} {sz:Nat} {ρ:Nat→Nm} {E:Env} {H:Hp} {a:Act} {Γ:Cfg}
def dsts:List Oper→List Nat
 | []=>[]
 | o::l=>match o.dst with|some d=>d::dsts l|none=>dsts l
noncomputable def wrC (c:Code):List Nat :=
 Code.rec (motive:=fun _=>List Nat)
  [] (fun _ ops _=>dsts ops.toList) (fun _ _ a b=>a++b) (fun _ _ _ a b=>a++b) (fun _ _ a=>a)
  (fun _ a=>a) (fun _ _ _ _ a b=>a++b) (fun _=>[]) (fun _ a=>a) (fun _=>[]) (fun _=>[]) [] (fun _=>[]) c
def dropL {α:Type} (ws:List Nat):List Nat→List (Nat × α)→List (Nat × α)
 | _,[]=>[]
 | D,(t,x)::r=>match memB t ws with
  | true=>dropL ws D r
  | false=>match memB t D with|true=>dropL ws D r|false=>(t,x)::dropL ws (t::D) r
def keysOf {α:Type}:List (Nat × α)→List Nat
 | []=>[]
 | (t,_)::r=>t::keysOf r
def dropS (H:Hp):Env→Env
 | []=>[]
 | (t,x)::r=>match curS H x with|true=>(t,x)::dropS H r|false=>dropS H r
def stE (ws:List Nat) (m:Env) (E:Env) (H:Hp):Env:=m++dropS H (dropL ws (keysOf m) E)
def stH (ws:List Nat) (m:Hp) (H:Hp):Hp:=m++dropL ws (keysOf m) H
def stK (body:Code) (mE:Env) (mH:Hp) (E:Env) (H:Hp) (k:Env→Hp→Prop):Prop:=frcN (wrC body) fun ws=>frcEnv (stE ws mE E H) fun E1=>frcHs (stH ws mH H) fun H1=>k E1 H1
theorem stK_iff (body:Code) (mE:Env) (mH:Hp) (E:Env) (H:Hp) (k:Env→Hp→Prop):stK body mE mH E H k↔k (stE (wrC body) mE E H) (stH (wrC body) mH H):=by
 unfold stK;rw [frcN_iff,frcEnv_iff,frcHs_iff]
theorem loop_J (hm:P.follows .mixedOrders=true) (hΓ:ΓOK P Γ) {σ:Type} (mE:σ→Env) (mH:σ→Hp) (I:σ→Prop) (μ:σ→Nat) {body:Code} {k:Exit→Env→Hp→Prop} (s0:σ) (i0:I s0) (h0:stK body (mE s0) (mH s0) E H fun E1 H1=>EntZ E H E1 H1)
  (hr:∀ s,I s→stK body (mE s) (mH s) E H fun E1 H1=>code P Γ sz body E1 H1 (fun ex E' H'=>match ex with|.normal=>∃ s',I s'∧(stK body (mE s') (mH s') E H fun E1 H1=>EntZ E' H' E1 H1)∧μ s'<μ s|ex=>k ex E' H')):LoopP P sz Γ.dm body E H k:=by
 refine ⟨fun C M0 w0 ρ a w Q hdm R hQ => ?_⟩
 refine wp_loopG (fun n a w=>∃ s ρ,I s∧μ s=n∧Rel C M0 w0 sz ρ (stE (wrC body) (mE s) E H) (stH (wrC body) (mH s) H) a w) (n:=μ s0) ⟨s0,_,i0,rfl,R.entZ ((stK_iff ..).1 h0)⟩ ?_
 rintro n a w ⟨s,ρ,hI,rfl,R⟩
 refine code_sound hm hΓ hdm body _ _ _ ((stK_iff ..).1 (hr s hI)) ρ a w _ R fun ex E' H' ρ' a' w' hk R' => ?_
 cases ex with
 | normal =>
  obtain ⟨s',h0,h1,h2⟩:=hk
  exact ⟨_,h2,s',_,h0,rfl,R'.entZ ((stK_iff ..).1 h1)⟩
 | _=>exact hQ _ _ _ _ _ _ hk R'
theorem zE0:entZE H E []:=trivial
theorem zE1 {t:Nat} {x:SV} {r:Env} (h1:lookZ H E t=some x) (h2:entZE H E r):entZE H E ((t,x)::r):=⟨h1,h2⟩
theorem zH0:entZH H []:=trivial
theorem zH1 {n:Nat} {b:Blk} {r:Hp} (h1:lookZH H n=some b) (h2:entZH H r):entZH H ((n,b)::r):=⟨h1,h2⟩
theorem ent_i {k:IntKind} {a b:Int} (h:a=b):(some (sV (.int k a)):Option SV)=some (sV (.int k b)):=by rw [h]
theorem ent_b {a b:Bool} (h:a=b):(some (sV (.bool a)):Option SV)=some (sV (.bool b)):=by rw [h]
theorem zi1 {k:IntKind} {a b:Int} (h:a=b:=by first|omega|(rw [IntWalk.i64_in _ (by omega)];omega)|(simp;done)):(some (sV (.int k a)):Option SV)=some (sV (.int k b)):=ent_i h
theorem zb1 {a b:Bool} (h:a=b:=by first|omega|(rw [IntWalk.i64_in _ (by omega)];omega)|(simp;done)):(some (sV (.bool a)):Option SV)=some (sV (.bool b)):=ent_b h
theorem zent {E':Env} {H':Hp} (h1:entZE H E E':=by repeat' (first|with_reducible exact zE0|with_reducible refine zE1 ?_ ?_|rfl|assumption|(refine ent_i ?_;(first|omega|(rw [IntWalk.i64_in _ (by omega)];omega)|(simp;done)))|(refine ent_b ?_;(first|omega|(rw [IntWalk.i64_in _ (by omega)];omega)|(simp;done))))) (h2:entZH H H':=by repeat' (first|with_reducible exact zH0|with_reducible refine zH1 ?_ ?_|rfl|assumption)) (h3:clB E' H'=true:=by rfl):EntZ E H E' H':=⟨h1,h2,h3⟩
end
theorem zw {p:Prop} (h:p:=by ((repeat' ((conv=>whnf);first|(with_reducible first|refine br_t ?_|refine br_f ?_|refine za ?_|refine zg ?_|refine zo ?_|refine zb ?_|refine zm ?_|refine zc ?_|refine ze ?_|refine zk ?_)|((with_reducible refine bc_t ?_ ?_);(first|omega|decide))|((with_reducible refine bc_f ?_ ?_);(first|omega|decide))|(with_reducible first|refine bc (fun h => ?_) (fun h => ?_)|refine zt ?_|refine zf ?_|refine br_i (fun h => ?_) (fun h => ?_))|refine zg ?_|refine zi ?_|refine zb ?_|refine zl ?_));(all_goals (conv=>whnf));(all_goals rfl))):p:=h
theorem zwb {p:Prop} (h:p:=by ((repeat' ((conv=>whnf);first|(with_reducible first|refine br_t ?_|refine br_f ?_|refine za ?_|refine zg ?_|refine zo ?_|refine zb ?_|refine zm ?_|refine zc ?_|refine ze ?_|refine zk ?_)|((with_reducible refine bc_t ?_ ?_);(first|omega|decide))|((with_reducible refine bc_f ?_ ?_);(first|omega|decide))|(with_reducible first|refine bc (fun h => ?_) (fun h => ?_)|refine zt ?_|refine zf ?_|refine br_i (fun h => ?_) (fun h => ?_))|refine zg ?_|refine zi ?_|refine zb ?_|refine zl ?_));(all_goals (conv=>whnf));(all_goals (first|rfl|exact r_bool (by simp))))):p:=h
end Sx
end Go.Proofs.YtddbmpbihpkabaaGreat

namespace Go.Proofs.YtddbmpbihpkabaaGreat
open Go Go.RowKit Go.ChangeShapes Go.WideShapes Go.Deep Go.Proofs.YtddbmpbihpkabaaGreat.Sx
namespace Sx
inductive Sh where
 | int (k:IntKind)
 | bool
 | str
 | sl (ek:Nat) (e:Sh)
 | st (fs:Sh)
 | f0
 | fc (n:Nat) (h t:Sh)
mutual
def TyS (P:Program):Sh→Nat→Prop
 | .int k,t=>P.underlying t=some (.int k)
 | .bool,t=>P.underlying t=some .bool
 | .str,t=>P.underlying t=some .string
 | .sl ek e,t=>0<ek∧∃ u,P.underlying t=some (.slice u)∧P.cellsOf u=ek∧TyS P e u
 | .st fs,t=>∃ F:Array Field,P.underlying t=some (.struct F)∧TyF P (P.cellsOf t) fs F.toList 0
 | .f0,_=>False
 | .fc _ _ _,_=>False
def TyF (P:Program) (tot:Nat):Sh→List Field→Nat→Prop
 | .f0,[],off=>off=tot
 | .fc n h t,f::fs,off=>f.offset=off∧P.cellsOf f.type=n∧TyS P h f.type∧TyF P tot t fs (off+n)
 | _,_,_=>False
end
mutual
def Fits:Sh→List D→Prop
 | .int k,ds=>∃ n,ds=[.v (.int k n)]
 | .bool,ds=>∃ b,ds=[.v (.bool b)]
 | .str,ds=>∃ s:ByteArray,s.size≤maxLen∧ds=[.v (.string s)]
 | .sl ek e,ds=>∃ l:List (List D),ds=[.list ek l]∧∀ x∈l,Fits e x
 | .st fs,ds=>FitF fs ds
 | .f0,_=>False
 | .fc _ _ _,_=>False
def FitF:Sh→List D→Prop
 | .f0,ds=>ds=[]
 | .fc _ h t,ds=>∃ a b,ds=a++b∧Fits h a∧FitF t b
 | _,_=>False
end
section
variable {H:Type} {enc:TypeId × Value→H} {P:Program} {w:World} {base:Nat} {spare:Nat→Bool} {held:Bool}
theorem lit_wf {k:IntKind} {n:Int} (h:(Lit.int k n).wf=true):inK k n:=by
 rw [inK_iff]
 simpa [Lit.wf] using h
theorem TyF_le:∀ (s:Sh) (F:List Field) (off tot:Nat),TyF P tot s F off→off≤tot
 | .f0,[],off,tot,h=>Nat.le_of_eq h
 | .fc n h t,f::fs,off,tot,hs=>by
  have:=TyF_le t fs (off+n) tot hs.2.2.2
  omega
 | .f0,_::_,_,_,hs=>hs.elim
 | .fc _ _ _,[],_,_,hs=>hs.elim
 | .int _,[],_,_,hs=>hs.elim
 | .int _,_::_,_,_,hs=>hs.elim
 | .bool,[],_,_,hs=>hs.elim
 | .bool,_::_,_,_,hs=>hs.elim
 | .str,[],_,_,hs=>hs.elim
 | .str,_::_,_,_,hs=>hs.elim
 | .sl _ _,[],_,_,hs=>hs.elim
 | .sl _ _,_::_,_,_,hs=>hs.elim
 | .st _,[],_,_,hs=>hs.elim
 | .st _,_::_,_,_,hs=>hs.elim
theorem one_cell {d:D} {v:Value} {M:Nat→Prop} (ho:v.cells=#[v]) (h:DsR w M [d] v.cells.toList):DCR w M (.one d) v:=by
 rw [ho] at h
 exact h.1
mutual
theorem trod_fits:∀ (s:Sh) (t fuel:Nat) (cs:List Value) (x:DataW H × List MemPlace),TyS P s t→DataW.trod enc P w base spare held fuel t cs=some x→∃ ds,DsR w (fun _=>False) ds cs∧Fits s ds
 | .int k,t,fuel,cs,x,hs,h=>by
  obtain ⟨n,rfl,_,hw⟩:=DataW.trod_int hs h
  exact ⟨[.v (.int k n)],⟨.v _ rfl (lit_wf hw),trivial⟩,n,rfl⟩
 | .bool,t,fuel,cs,x,hs,h=>by
  obtain ⟨b,rfl,_⟩:=DataW.trod_bool hs h
  exact ⟨[.v (.bool b)],⟨.v _ rfl trivial,trivial⟩,b,rfl⟩
 | .str,t,fuel,cs,x,hs,h=>by
  obtain ⟨s,rfl,_,hl⟩:=DataW.trod_string hs h
  exact ⟨[.v (.string s)],⟨.v _ rfl trivial,trivial⟩,s,hl,rfl⟩
 | .sl ek e,t,fuel,cs,x,hs,h=>by
  obtain ⟨hpos,u,hu,hk,hE⟩:=hs
  rcases open_slice hu h with ⟨rfl,_⟩|⟨a,len,cap,m,n,D',Pl,rfl,hb,hl,hm,hmm,_,hi⟩
  ·exact ⟨[.list ek []],⟨.nil ek none 0 (by omega) (fun _=>rfl),trivial⟩,[],rfl,by simp⟩
  ·have hcap:cap≤9223372036854775807:=by simp only [maxLen] at hm;exact hm
   rcases Nat.eq_zero_or_pos len with h0|h0
   ·subst h0
    exact ⟨[.list ek []],⟨.nil ek (some a) cap hcap (fun h=>by cases h),trivial⟩,[],rfl,by simp⟩
   have key:∀ i,∃ p:List Value × List D,i<len→p.1.length=ek∧(∀ j (hj:j<p.1.length),w.cell? ((a.add (i*ek)).add j)=some p.1[j])∧DsR w (fun _=>False) p.2 p.1∧Fits e p.2:=fun i=>by
    by_cases hi':i<len
    ·obtain ⟨cs',hc,ht⟩:=hi i (by rw [hmm];split<;>omega)
     obtain ⟨ds,h1,h2⟩:=trod_fits e u n cs' _ hE ht
     rw [hk] at hc
     obtain ⟨_,hcl,hat⟩:=World.cells?_some hc
     exact ⟨(cs',ds),fun _=>⟨hcl,fun j hj=>by rw [hat j (by simp only at hj;omega),List.getElem?_eq_getElem hj],h1,h2⟩⟩
    ·exact ⟨([],[]),fun h=>absurd h hi'⟩
   obtain ⟨g,hg⟩:=Classical.axiomOfChoice key
   have hspot:a.spot=none:=by
    obtain ⟨h1,h2,_⟩:=hg 0 h0
    have:=h2 0 (by omega)
    rw [Nat.zero_mul] at this
    have e0:(a.add 0).add 0=a:=rfl
    rw [e0] at this
    unfold World.cell? at this
    cases hs:a.spot with
    | none=>rfl
    | some x=>rw [hs] at this;split at this<;>simp at this
   obtain ⟨b,off,spot⟩:=a
   simp only at hspot
   subst hspot
   have hbl:b<w.heap.size:=by
    obtain ⟨h1,h2,_⟩:=hg 0 h0
    have:=h2 0 (by omega)
    rw [add_plain,add_plain] at this
    unfold World.cell? at this
    rcases Nat.lt_or_ge b w.heap.size with h|h
    ·exact h
    ·simp [Array.getElem?_eq_none h] at this
   have hll:((List.range len).map fun i=>(g i).2).length=len:=by simp
   refine ⟨[.list ek ((List.range len).map fun i=>(g i).2)],⟨?_,trivial⟩,_,rfl,fun x hx => ?_⟩
   ·conv=>arg 4;rw [show len=((List.range len).map fun i=>(g i).2).length from hll.symm]
    refine .list (fun i j=>(g i).1.getD j undef) (by rw [hll];exact hl) hcap (fun h=>h) hbl (fun x hx => ?_) (fun i j hi' hj => ?_) (fun i j hi' hj => ?_)
    ·simp only [List.mem_map,List.mem_range] at hx
     obtain ⟨i,hi',rfl⟩:=hx
     obtain ⟨h1,_,h3,_⟩:=hg i hi'
     rw [← h3.length,h1]
    ·rw [hll] at hi'
     obtain ⟨h1,h2,_⟩:=hg i hi'
     have:=h2 j (by omega)
     rw [add_plain,add_plain] at this
     rw [this]
     simp [List.getElem?_eq_getElem (show j<(g i).1.length by omega)]
    ·rw [hll] at hi'
     obtain ⟨h1,_,h3,_⟩:=hg i hi'
     have e1:((List.range len).map fun i=>(g i).2)[i]=(g i).2:=by simp
     have hj':j<(g i).2.length:=by rw [← e1];exact hj
     obtain ⟨v,hv,hr⟩:=h3.get j _ (List.getElem?_eq_getElem hj')
     have e2:(g i).1.getD j undef=v:=by rw [List.getD_eq_getElem?_getD,hv];rfl
     rw [e2]
     have e3:((List.range len).map fun i=>(g i).2)[i][j]=(g i).2[j]:=by simp
     rw [e3];exact hr
   ·simp only [List.mem_map,List.mem_range] at hx
    obtain ⟨i,hi',rfl⟩:=hx
    exact (hg i hi').2.2.2
 | .st fs,t,fuel,cs,x,hs,h=>by
  obtain ⟨F,hF,hT⟩:=hs
  obtain ⟨ys,n,hn,hy,hlen,hyl,hf⟩:=DataW.trod_struct hF h
  obtain ⟨ds,h1,h2⟩:=trodF_fits fs n F.toList 0 cs (P.cellsOf t) hT (by omega) (Nat.zero_le _) (fun j f hj=>by
   have hj':F[j]? = some f:=by simpa using hj
   have:=hf j f hj'
   have hjl:j<F.size:=(Array.getElem?_eq_some_iff.1 hj').1
   exact ⟨ys[j]'(by omega),by rw [this,List.getElem?_eq_getElem (by omega)]⟩)
  exact ⟨ds,by simpa using h1,h2⟩
 | .f0,_,_,_,_,hs,_=>hs.elim
 | .fc _ _ _,_,_,_,_,hs,_=>hs.elim
theorem trodF_fits:∀ (s:Sh) (n:Nat) (F:List Field) (off:Nat) (cs:List Value) (tot:Nat),TyF P tot s F off→cs.length=tot→off≤tot →
  (∀ (j:Nat) (f:Field),F[j]? = some f→∃ y:DataW H × List MemPlace,DataW.trod enc P w base spare held n f.type ((cs.drop f.offset).take (P.cellsOf f.type))=some y)→∃ ds,DsR w (fun _=>False) ds (cs.drop off)∧FitF s ds
 | .f0,n,[],off,cs,tot,hs,hl,_,_=>by
  have hs:off=tot:=hs
  exact ⟨[],by rw [List.drop_eq_nil_of_le (by omega)];trivial,rfl⟩
 | .fc m h t,n,f::fs,off,cs,tot,hs,hl,ho,hf=>by
  obtain ⟨h1,h2,h3,h4⟩:=hs
  obtain ⟨y,hy⟩:=hf 0 f rfl
  obtain ⟨a,ha,hfa⟩:=trod_fits h f.type n _ y h3 hy
  rw [h1,h2] at ha
  have hmle:off+m≤tot:=TyF_le t fs (off+m) tot h4
  obtain ⟨b,hb,hfb⟩:=trodF_fits t n fs (off+m) cs tot h4 hl hmle (fun j g hj=>hf (j+1) g (by simpa using hj))
  refine ⟨a++b,?_,a,b,rfl,hfa,hfb⟩
  have e:cs.drop off=(cs.drop off).take m++cs.drop (off+m):=by
   rw [← List.drop_drop,List.take_append_drop]
  rw [e]
  exact ha.append hb
 | .f0,_,_::_,_,_,_,hs,_,_,_=>hs.elim
 | .fc _ _ _,_,[],_,_,_,hs,_,_,_=>hs.elim
 | .int _,_,[],_,_,_,hs,_,_,_=>hs.elim
 | .int _,_,_::_,_,_,_,hs,_,_,_=>hs.elim
 | .bool,_,[],_,_,_,hs,_,_,_=>hs.elim
 | .bool,_,_::_,_,_,_,hs,_,_,_=>hs.elim
 | .str,_,[],_,_,_,hs,_,_,_=>hs.elim
 | .str,_,_::_,_,_,_,hs,_,_,_=>hs.elim
 | .sl _ _,_,[],_,_,_,hs,_,_,_=>hs.elim
 | .sl _ _,_,_::_,_,_,_,hs,_,_,_=>hs.elim
 | .st _,_,[],_,_,_,hs,_,_,_=>hs.elim
 | .st _,_,_::_,_,_,_,hs,_,_,_=>hs.elim
end
theorem exists_map {α β:Type} {f:α→β}:∀ {l:List β},(∀ x∈l,∃ y,x=f y)→∃ l':List α,l=l'.map f
 | [],_=>⟨[],rfl⟩
 | x::l,h=>by
  obtain ⟨y,rfl⟩:=h x (List.mem_cons_self ..)
  obtain ⟨l',rfl⟩:=exists_map (l:=l) fun z hz=>h z (List.mem_cons_of_mem _ hz)
  exact ⟨y::l',rfl⟩
def FitC:Sh→DC→Prop
 | .st fs,c=>∃ ds,c=.agg ds∧FitF fs ds
 | s,c=>∃ d,c=.one d∧Fits s [d]
theorem arg_data {r:Reach} {b0 t:Nat} {s:Sh} {v:Value} {d:DataW H} {p:List MemPlace} (hs:TyS P s t) (hv:Value.okWide P w r b0 t v) (h:DataW.Trod enc P w base spare held t v d p):∃ c,DCR w (fun _=>False) c v∧FitC s c:=by
 obtain ⟨fuel,h⟩:=h
 obtain ⟨ds,h1,h2⟩:=trod_fits s t fuel _ _ hs h
 cases s with
 | st fs =>
  obtain ⟨F,hF,_⟩:=hs
  obtain ⟨cs,rfl,_⟩:=okWide_struct hF hv
  exact ⟨.agg ds,⟨cs.toList,by simp,by simpa [Value.cells] using h1⟩,ds,rfl,h2⟩
 | int k =>
  obtain ⟨m,rfl⟩:=okWide_int hs hv
  obtain ⟨n,rfl⟩:=h2
  exact ⟨.one _,one_cell rfl h1,_,rfl,n,rfl⟩
 | bool =>
  obtain ⟨m,rfl⟩:=okWide_bool hs hv
  obtain ⟨n,rfl⟩:=h2
  exact ⟨.one _,one_cell rfl h1,_,rfl,n,rfl⟩
 | str =>
  obtain ⟨m,rfl⟩:=okWide_string hs hv
  obtain ⟨n,hn,rfl⟩:=h2
  exact ⟨.one _,one_cell rfl h1,_,rfl,n,hn,rfl⟩
 | sl ek e =>
  obtain ⟨_,u,hu,_⟩:=hs
  obtain ⟨x,y,z,rfl⟩:=okWide_slice hu hv
  obtain ⟨l,rfl,h2⟩:=h2
  exact ⟨.one _,one_cell rfl h1,_,rfl,l,rfl,h2⟩
 | f0=>exact hs.elim
 | fc n h t=>exact hs.elim
end
def kEq:IntKind→IntKind→Bool:=fun a b=>decide (a=b)
mutual
def tyB (P:Program):Sh→Nat→Bool
 | .int k,t=>match P.underlying t with|some (.int k')=>kEq k k'|_=>false
 | .bool,t=>match P.underlying t with|some .bool=>true|_=>false
 | .str,t=>match P.underlying t with|some .string=>true|_=>false
 | .sl ek e,t=>Nat.ble 1 ek && match P.underlying t with|some (.slice u)=>Nat.beq (P.cellsOf u) ek && tyB P e u|_=>false
 | .st fs,t=>match P.underlying t with|some (.struct F)=>tyFB P (P.cellsOf t) fs F.toList 0|_=>false
 | .f0,_=>false
 | .fc _ _ _,_=>false
def tyFB (P:Program) (tot:Nat):Sh→List Field→Nat→Bool
 | .f0,[],off=>Nat.beq off tot
 | .fc n h t,f::fs,off=>Nat.beq f.offset off && (Nat.beq (P.cellsOf f.type) n && (tyB P h f.type && tyFB P tot t fs (off+n)))
 | _,_,_=>false
end
mutual
theorem tyB_ok {P:Program}:∀ {s:Sh} {t:Nat},tyB P s t=true→TyS P s t
 | .int k,t,h=>by
  unfold tyB at h
  split at h
  ·rename_i k' h1
   rw [TyS,h1,of_decide_eq_true h]
  ·cases h
 | .bool,t,h=>by
  unfold tyB at h
  split at h
  ·rename_i h1;exact h1
  ·cases h
 | .str,t,h=>by
  unfold tyB at h
  split at h
  ·rename_i h1;exact h1
  ·cases h
 | .sl ek e,t,h=>by
  unfold tyB at h
  rw [Bool.and_eq_true] at h
  obtain ⟨h1,h2⟩:=h
  split at h2
  ·rename_i u h3
   rw [Bool.and_eq_true] at h2
   exact ⟨Nat.le_of_ble_eq_true h1,u,h3,Nat.eq_of_beq_eq_true h2.1,tyB_ok h2.2⟩
  ·cases h2
 | .st fs,t,h=>by
  unfold tyB at h
  split at h
  ·rename_i F h1
   exact ⟨F,h1,tyFB_ok h⟩
  ·cases h
 | .f0,t,h=>by unfold tyB at h;cases h
 | .fc _ _ _,t,h=>by unfold tyB at h;cases h
theorem tyFB_ok {P:Program} {tot:Nat}:∀ {s:Sh} {F:List Field} {off:Nat},tyFB P tot s F off=true→TyF P tot s F off
 | .f0,[],off,h=>by unfold tyFB at h;exact Nat.eq_of_beq_eq_true h
 | .fc n h t,f::fs,off,hs=>by
  unfold tyFB at hs
  simp only [Bool.and_eq_true] at hs
  exact ⟨Nat.eq_of_beq_eq_true hs.1,Nat.eq_of_beq_eq_true hs.2.1,tyB_ok hs.2.2.1,tyFB_ok hs.2.2.2⟩
 | .f0,_::_,_,h=>by unfold tyFB at h;cases h
 | .fc _ _ _,[],_,h=>by unfold tyFB at h;cases h
 | .int _,_,_,h=>by unfold tyFB at h;cases h
 | .bool,_,_,h=>by unfold tyFB at h;cases h
 | .str,_,_,h=>by unfold tyFB at h;cases h
 | .sl _ _,_,_,h=>by unfold tyFB at h;cases h
 | .st _,_,_,h=>by unfold tyFB at h;cases h
end
theorem law_of_fn {P:Program} {f:Nat} {args:List DC} {x:Value} (hcall:∀ (vs:Array Value) (w:World),(callFunc f vs).run P w=.ok (.enter f vs) w) (h:FnOK P f args (.c (.one (.v x)))) {w:World} {vs:List Value} (hg:Gd w) (hvs:DCsR w (fun _=>False) args vs) :
  Calls P f vs.toArray w fun e w'=>e=.returned x∧Below w.heap.size w w':=by
 rcases h w (fun _=>False) vs ⟨fun _ h=>h.elim,hg,fun _ h=>h.elim⟩ hvs with ⟨g,hg,hc⟩|⟨u,hg,_⟩
 ·have:g=f:=by
   rw [hcall] at hg
   injection hg with h1
   injection h1 with h1
   exact h1.symm
  subst this
  refine hc.mono ?_
  rintro e w' ⟨u,rfl,hu,hb⟩
  have hu:Rep w' _ (.v x) u:=hu
  cases hu
  exact ⟨rfl,hb⟩
 ·rw [hcall] at hg
  injection hg with h1
  cases h1
def shInt:Sh:=.int .i64
def shRatio:Sh:=.st (.fc 1 shInt (.fc 1 shInt .f0))
def shPoint:Sh:=.st (.fc 1 shInt (.fc 1 shInt (.fc 1 shInt .f0)))
def shField:Sh:=.st (.fc 1 (.sl 3 shPoint) .f0)
theorem fit_int {c:DC} (h:FitC shInt c):∃ n:Int,c=.one (.v (.int .i64 n)):=by
 obtain ⟨d,rfl,n,e⟩:=h
 simp only [List.cons.injEq,and_true] at e
 exact ⟨n,by rw [e]⟩
theorem fits_ratio {ds:List D} (h:FitF (.fc 1 shInt (.fc 1 shInt .f0)) ds):∃ n m:Int,ds=[.v (.int .i64 n),.v (.int .i64 m)]:=by
 obtain ⟨_,_,rfl,⟨n,rfl⟩,_,_,rfl,⟨m,rfl⟩,rfl⟩:=h
 exact ⟨n,m,rfl⟩
end Sx
end Go.Proofs.YtddbmpbihpkabaaGreat
