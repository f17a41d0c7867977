import Derived.Test.YtfkfficabeclcaaGreatDoorGLTNamesAI
import Derived.ScopeJumps
import Derived.StillTail
import Derived.Lib.QuietBelow
import Derived.BigQuiet
set_option linter.all false
namespace Go.Proofs.YtfkfficabeclcaaGreatDoor
open Go Go.RowKit
namespace Sx
section
variable {P:Program} {C M0:Nat→Prop} {w0 w:World} {sz:Nat} {ρ:Nat→Nm} {E:Env} {H:Hp} {a:Act} {Γ:Cfg}
def curA (H:Hp):At→Bool
 | .osl n v=>match look H n with|some (.row _ _ v')=>Nat.beq v v'|_=>false
 | .rp n v _ _ _=>match look H n with|some (.row _ _ v')=>Nat.beq v v'|_=>false
 | _=>true
def curAs (H:Hp):List At→Bool
 | []=>true
 | a::l=>match curA H a with|true=>curAs H l|false=>false
def curC (H:Hp):SC→Bool
 | .at a=>curA H a
 | .agg l=>curAs H l
def curCs (H:Hp):List SC→Bool
 | []=>true
 | a::l=>match curC H a with|true=>curCs H l|false=>false
def curS (H:Hp):SV→Bool
 | .c x=>curC H x
 | .tup l=>curCs H l
def zA:At→At
 | .osl n _=>.osl n 0
 | .rp n _ k i o=>.rp n 0 k i o
 | .d x=>.d x
 | .ptr n o=>.ptr n o
 | .ep a b c d=>.ep a b c d
 | .fn f c=>.fn f c
 | .ifp t n o=>.ifp t n o
 | .asl n l=>.asl n l
def zC:SC→SC
 | .at a=>.at (zA a)
 | .agg l=>.agg (l.map zA)
def zS:SV→SV
 | .c x=>.c (zC x)
 | .tup l=>.tup (l.map zC)
def curB (H:Hp):Blk→Bool
 | .own cells=>curAs H cells
 | _=>true
def zB:Blk→Blk
 | .own cells=>.own (cells.map zA)
 | .row k l _=>.row k l 0
 | .frz=>.frz
def lookZ (H:Hp) (E:Env) (t:Nat):Option SV:=match look E t with|some x=>(match curS H x with|true=>some (zS x)|false=>none)|none=>none
def lookZH (H:Hp) (n:Nat):Option Blk:=match look H n with|some x=>(match curB H x with|true=>some (zB x)|false=>none)|none=>none
def entZE (H:Hp) (E:Env):Env→Prop
 | []=>True
 | (t,x)::r=>lookZ H E t=some x∧entZE H E r
def entZH (H:Hp):Hp→Prop
 | []=>True
 | (n,b)::r=>lookZH H n=some b∧entZH H r
structure EntZ (E:Env) (H:Hp) (E':Env) (H':Hp):Prop where
 env:entZE H E E'
 hp:entZH H H'
 cl:clB E' H'=true
theorem entZE_look {H:Hp} {E:Env}:∀ {E':Env},entZE H E E'→∀ t x,look E' t=some x→lookZ H E t=some x
 | [],_,t,x,h=>by simp [look] at h
 | (k,y)::r,he,t,x,h=>by
  rw [look_cons] at h
  split at h
  ·rename_i e;injection h with h;subst e h;exact he.1
  ·exact entZE_look he.2 t x h
theorem entZH_look {H:Hp}:∀ {H':Hp},entZH H H'→∀ t x,look H' t=some x→lookZH H t=some x
 | [],_,t,x,h=>by simp [look] at h
 | (k,y)::r,he,t,x,h=>by
  rw [look_cons] at h
  split at h
  ·rename_i e;injection h with h;subst e h;exact he.1
  ·exact entZH_look he.2 t x h
theorem curA_rel (R:Rel C M0 w0 sz ρ E H a w) {M':Nat→Prop} (hM:∀ b,b<w.heap.size→M' b→Mof M0 ρ H b) {s:At} {v:Value} (h:curA H s=true) (k:AtR ρ w (Mof M0 ρ H) s v):AtR (fun n=>zv (ρ n)) w M' (zA s) v:=by
 cases s with
 | d x=>exact Rep.mono k (.refl _ w) hM
 | ptr n o=>exact k
 | ep a b c d=>exact AtR.mono (a:=.ep a b c d) (.refl _ w) hM k
 | fn f c=>exact k
 | ifp t n o=>exact k
 | asl n l=>exact k
 | osl n ver =>
  simp only [curA] at h
  split at h
  ·rename_i kk l v' hb
   have hv:ver=v':=by simpa using h
   subst hv
   obtain ⟨e1,e2,e3,e4⟩:=k
   exact ⟨e1,e2,Nat.le_refl _,fun _=>e4 (R.blk n _ hb).1.2.2.2.1.symm⟩
  ·cases h
 | rp n ver kk i o =>
  simp only [curA] at h
  split at h
  ·rename_i k' l v' hb
   have hv:ver=v':=by simpa using h
   subst hv
   obtain ⟨e1,e2,e3,e4⟩:=k
   exact ⟨e1,e2,Nat.le_refl _,fun _=>e4 (R.blk n _ hb).1.2.2.2.1.symm⟩
  ·cases h
theorem curAs_rel (R:Rel C M0 w0 sz ρ E H a w) {M':Nat→Prop} (hM:∀ b,b<w.heap.size→M' b→Mof M0 ρ H b):∀ {l:List At} {vs:List Value},curAs H l=true→AtsR ρ w (Mof M0 ρ H) l vs→AtsR (fun n=>zv (ρ n)) w M' (l.map zA) vs
 | [],[],_,_=>trivial
 | s::l,v::vs,h,k=>by
  simp only [curAs] at h
  split at h
  ·rename_i hs;exact ⟨curA_rel R hM hs k.1,curAs_rel R hM h k.2⟩
  ·cases h
 | [],_::_,_,k=>k.elim
 | _::_,[],_,k=>k.elim
theorem curC_rel (R:Rel C M0 w0 sz ρ E H a w) {M':Nat→Prop} (hM:∀ b,b<w.heap.size→M' b→Mof M0 ρ H b) {s:SC} {v:Value} (h:curC H s=true) (k:SCR ρ w (Mof M0 ρ H) s v):SCR (fun n=>zv (ρ n)) w M' (zC s) v:=by
 cases s with
 | «at» s=>exact curA_rel R hM h k
 | agg l=>obtain ⟨vs,e,k⟩:=k;exact ⟨vs,e,curAs_rel R hM h k⟩
theorem curCs_rel (R:Rel C M0 w0 sz ρ E H a w) {M':Nat→Prop} (hM:∀ b,b<w.heap.size→M' b→Mof M0 ρ H b):∀ {l:List SC} {vs:List Value},curCs H l=true→SCsR ρ w (Mof M0 ρ H) l vs→SCsR (fun n=>zv (ρ n)) w M' (l.map zC) vs
 | [],[],_,_=>trivial
 | s::l,v::vs,h,k=>by
  simp only [curCs] at h
  split at h
  ·rename_i hs;exact ⟨curC_rel R hM hs k.1,curCs_rel R hM h k.2⟩
  ·cases h
 | [],_::_,_,k=>k.elim
 | _::_,[],_,k=>k.elim
theorem curS_rel (R:Rel C M0 w0 sz ρ E H a w) {M':Nat→Prop} (hM:∀ b,b<w.heap.size→M' b→Mof M0 ρ H b) {s:SV} {v:Value} (h:curS H s=true) (k:SVR ρ w (Mof M0 ρ H) s v):SVR (fun n=>zv (ρ n)) w M' (zS s) v:=by
 cases s with
 | c s=>exact curC_rel R hM h k
 | tup l=>obtain ⟨vs,e,k⟩:=k;exact ⟨vs,e,curCs_rel R hM h k⟩
theorem real_z {b:Blk} {m:Nm}:(zB b).real (zv m)=b.real m:=by cases b<;>rfl
theorem Rel.entZ {E':Env} {H':Hp} (R:Rel C M0 w0 sz ρ E H a w) (h:EntZ E H E' H'):Rel C M0 w0 sz (fun n=>zv (ρ n)) E' H' a w:=by
 have hc:=h.cl
 simp only [clB,Bool.and_eq_true,List.all_eq_true,keysB] at hc
 have hE:∀ t x,look E' t=some x→∃ x0,look E t=some x0∧curS H x0=true∧zS x0=x:=fun t x hx=>by
  have:=entZE_look h.env t x hx
  unfold lookZ at this
  split at this
  ·rename_i x0 h0
   split at this
   ·rename_i hcur;injection this with this;exact ⟨x0,h0,hcur,this⟩
   ·cases this
  ·cases this
 have hH:∀ n b,look H' n=some b→∃ b0,look H n=some b0∧curB H b0=true∧zB b0=b:=fun n b hb=>by
  have:=entZH_look h.hp n b hb
  unfold lookZH at this
  split at this
  ·rename_i x0 h0
   split at this
   ·rename_i hcur;injection this with this;exact ⟨x0,h0,hcur,this⟩
   ·cases this
  ·cases this
 have hM:∀ k,k<w.heap.size→Mof M0 (fun n=>zv (ρ n)) H' k→Mof M0 ρ H k:=by
  rintro k _ (h|⟨m,x,hm,hr,e⟩)
  ·exact .inl h
  ·obtain ⟨b0,h1,_,rfl⟩:=hH m x hm
   exact .inr ⟨m,b0,h1,by rw [← real_z];exact hr,e⟩
 refine ⟨R.below,R.out,fun t y hy => ?_,fun m c hm hr => ?_,fun m c hm hr => ?_,fun m c hm => ?_,fun m m' c c' hm hm' hr hr' e => ?_,R.defers,R.size,R.pin,fun t x hx n hn=>hc.1 (t,x) (look_mem hx) n hn,fun n b hb m hm=>hc.2 (n,b) (look_mem hb) m hm⟩
 ·obtain ⟨x0,h1,h2,rfl⟩:=hE t y hy
  exact curS_rel R hM h2 (R.env t x0 h1)
 ·obtain ⟨b0,h1,_,rfl⟩:=hH m c hm
  exact R.lo m b0 h1 (by rw [← real_z];exact hr)
 ·obtain ⟨b0,h1,_,rfl⟩:=hH m c hm
  exact R.hi m b0 h1 (by rw [← real_z];exact hr)
 ·obtain ⟨b0,h1,h2,rfl⟩:=hH m c hm
  obtain ⟨hs,hcl⟩:=R.blk m b0 h1
  cases b0 with
  | own cells =>
   refine ⟨trivial,fun _ => ?_⟩
   obtain ⟨cs,h3,h4⟩:=hcl rfl
   exact ⟨cs,h3,curAs_rel R hM h2 h4⟩
  | row k l v =>
   obtain ⟨k1,k2,k3,k4,k5⟩:=hs
   refine ⟨⟨k1,k2,k3,rfl,k5⟩,fun hr => ?_⟩
   obtain ⟨cs,h3,c1,c2,c3,vs,rest,c4,c5⟩:=hcl hr
   exact ⟨cs,h3,c1,c2,c3,vs,rest,c4,c5.mono (.refl _ w) hM⟩
  | frz=>exact ⟨trivial,fun hr=>by simp [Blk.real,zB] at hr⟩
 ·obtain ⟨b0,h1,_,rfl⟩:=hH m c hm
  obtain ⟨b1,h2,_,rfl⟩:=hH m' c' hm'
  exact R.inj m m' b0 b1 h1 h2 (by rw [← real_z];exact hr) (by rw [← real_z];exact hr') e
theorem loop_I (hm:P.follows .mixedOrders=true) (hΓ:ΓOK P Γ) {σ:Type} (st:σ→Env × Hp) (I:σ→Prop) (μ:σ→Nat) {body:Code} {k:Exit→Env→Hp→Prop} (s0:σ) (i0:I s0) (h0:EntZ E H (st s0).1 (st s0).2)
  (hr:∀ s,I s→code P Γ sz body (st s).1 (st s).2 (fun ex E' H'=>match ex with|.normal=>∃ s',I s'∧EntZ E' H' (st s').1 (st s').2∧μ s'<μ s|ex=>k ex E' H')):LoopP P sz Γ.dm body E H k:=by
 refine ⟨fun C M0 w0 ρ a w Q hdm R hQ => ?_⟩
 refine wp_loopG (fun n a w=>∃ s ρ,I s∧μ s=n∧Rel C M0 w0 sz ρ (st s).1 (st s).2 a w) (n:=μ s0) ⟨s0,_,i0,rfl,R.entZ h0⟩ ?_
 rintro n a w ⟨s,ρ,hI,rfl,R⟩
 refine code_sound hm hΓ hdm body _ _ _ (hr s hI) ρ a w _ R fun ex E' H' ρ' a' w' hk R' => ?_
 cases ex with
 | normal =>
  obtain ⟨s',h0,h1,h2⟩:=hk
  exact ⟨_,h2,s',_,h0,rfl,R'.entZ h1⟩
 | _=>exact hQ _ _ _ _ _ _ hk R'
def cvA (ns:List Nat) (H:Hp):At→At
 | .osl n v=>match memB n ns with
  | true=>match look H n with
   | some (.row k l v')=>match Nat.beq v v' with|true=>.d (.list k l)|false=>.osl n v
   | _=>.osl n v
  | false=>.osl n v
 | .d x=>.d x
 | .ptr n o=>.ptr n o
 | .rp a b c d e=>.rp a b c d e
 | .ep a b c d=>.ep a b c d
 | .fn f c=>.fn f c
 | .ifp t n o=>.ifp t n o
 | .asl n l=>.asl n l
def cvC (ns:List Nat) (H:Hp):SC→SC
 | .at a=>.at (cvA ns H a)
 | .agg l=>.agg (l.map (cvA ns H))
def cvS (ns:List Nat) (H:Hp):SV→SV
 | .c x=>.c (cvC ns H x)
 | .tup l=>.tup (l.map (cvC ns H))
def cvB (ns:List Nat) (H:Hp) (n:Nat):Blk→Blk
 | .own cells=>.own (cells.map (cvA ns H))
 | .row k l v=>match memB n ns with|true=>.frz|false=>.row k l v
 | .frz=>.frz
def cvE (ns:List Nat) (H:Hp) (E:Env):Env:=E.map fun p=>(p.1,cvS ns H p.2)
def cvH (ns:List Nat) (H:Hp):Hp:=H.map fun p=>(p.1,cvB ns H p.1 p.2)
theorem look_map {α β:Type} {f:Nat→α→β}:∀ {l:List (Nat × α)} {t:Nat},look (l.map fun p=>(p.1,f p.1 p.2)) t=(look l t).map (f t)
 | [],t=>rfl
 | (k,x)::r,t=>by
  rw [List.map_cons,look_cons,look_cons]
  split
  ·rename_i e;simp only at e;subst e;rfl
  ·exact look_map
theorem cvA_names {ns:List Nat} {s:At}:∀ n∈(cvA ns H s).names,n∈s.names:=by
 intro n hn
 cases s with
 | osl m v =>
  simp only [cvA] at hn
  split at hn
  ·split at hn
   ·split at hn
    ·simp [At.names] at hn
    ·exact hn
   ·exact hn
  ·exact hn
 | _=>exact hn
theorem cvAs_names {ns:List Nat} {l:List At}:∀ n∈namesA (l.map (cvA ns H)),n∈namesA l:=by
 intro n hn
 simp only [namesA,List.mem_flatMap,List.mem_map] at *
 obtain ⟨_,⟨s,h1,rfl⟩,h2⟩:=hn
 exact ⟨s,h1,cvA_names n h2⟩
theorem cvC_names {ns:List Nat} {s:SC}:∀ n∈(cvC ns H s).names,n∈s.names:=by
 cases s with
 | «at» s=>exact cvA_names
 | agg l=>exact cvAs_names
theorem cvS_names {ns:List Nat} {s:SV}:∀ n∈(cvS ns H s).names,n∈s.names:=by
 cases s with
 | c s=>exact cvC_names
 | tup l =>
  intro n hn
  simp only [cvS,SV.names,namesC,List.mem_flatMap,List.mem_map] at *
  obtain ⟨_,⟨s,h1,rfl⟩,h2⟩:=hn
  exact ⟨s,h1,cvC_names n h2⟩
section
variable {ns:List Nat} {M':Nat→Prop}
theorem cvA_rel (R:Rel C M0 w0 sz ρ E H a w) (hM:∀ b,b<w.heap.size→M' b→Mof M0 ρ H b) (hn:∀ n k l v,memB n ns=true→look H n=some (.row k l v)→0<(ρ n).cap→¬ M' (ρ n).b) {s:At} {v:Value} (k:AtR ρ w (Mof M0 ρ H) s v):AtR ρ w M' (cvA ns H s) v:=by
 cases s with
 | osl n ver =>
  simp only [cvA]
  split
  ·rename_i hmem
   split
   ·rename_i kk l v' hb
    split
    ·rename_i hv
     have hv:ver=v':=by simpa using hv
     subst hv
     obtain ⟨e1,e2,e3,e4⟩:=k
     have hB:=R.blk n _ hb
     exact row_data hB (e4 hB.1.2.2.2.1.symm) hM (hn n kk l ver hmem hb) (fun h=>R.hi n _ hb (by simpa [Blk.real] using h))
    ·exact AtR.mono (a:=.osl n ver) (.refl _ w) hM k
   ·exact AtR.mono (a:=.osl n ver) (.refl _ w) hM k
  ·exact AtR.mono (a:=.osl n ver) (.refl _ w) hM k
 | d x=>exact Rep.mono k (.refl _ w) hM
 | ptr n o=>exact k
 | rp n ver kk i o=>exact k
 | ep a b c d=>exact AtR.mono (a:=.ep a b c d) (.refl _ w) hM k
 | fn f c=>exact k
 | ifp t n o=>exact k
 | asl n l=>exact k
theorem cvAs_rel (R:Rel C M0 w0 sz ρ E H a w) (hM:∀ b,b<w.heap.size→M' b→Mof M0 ρ H b) (hn:∀ n k l v,memB n ns=true→look H n=some (.row k l v)→0<(ρ n).cap→¬ M' (ρ n).b):∀ {l:List At} {vs:List Value},AtsR ρ w (Mof M0 ρ H) l vs→AtsR ρ w M' (l.map (cvA ns H)) vs
 | [],[],_=>trivial
 | s::l,v::vs,k=>⟨cvA_rel R hM hn k.1,cvAs_rel R hM hn k.2⟩
 | [],_::_,k=>k.elim
 | _::_,[],k=>k.elim
theorem cvC_rel (R:Rel C M0 w0 sz ρ E H a w) (hM:∀ b,b<w.heap.size→M' b→Mof M0 ρ H b) (hn:∀ n k l v,memB n ns=true→look H n=some (.row k l v)→0<(ρ n).cap→¬ M' (ρ n).b) {s:SC} {v:Value} (k:SCR ρ w (Mof M0 ρ H) s v):SCR ρ w M' (cvC ns H s) v:=by
 cases s with
 | «at» s=>exact cvA_rel R hM hn k
 | agg l=>obtain ⟨vs,e,k⟩:=k;exact ⟨vs,e,cvAs_rel R hM hn k⟩
theorem cvCs_rel (R:Rel C M0 w0 sz ρ E H a w) (hM:∀ b,b<w.heap.size→M' b→Mof M0 ρ H b) (hn:∀ n k l v,memB n ns=true→look H n=some (.row k l v)→0<(ρ n).cap→¬ M' (ρ n).b):∀ {l:List SC} {vs:List Value},SCsR ρ w (Mof M0 ρ H) l vs→SCsR ρ w M' (l.map (cvC ns H)) vs
 | [],[],_=>trivial
 | s::l,v::vs,k=>⟨cvC_rel R hM hn k.1,cvCs_rel R hM hn k.2⟩
 | [],_::_,k=>k.elim
 | _::_,[],k=>k.elim
theorem cvS_rel (R:Rel C M0 w0 sz ρ E H a w) (hM:∀ b,b<w.heap.size→M' b→Mof M0 ρ H b) (hn:∀ n k l v,memB n ns=true→look H n=some (.row k l v)→0<(ρ n).cap→¬ M' (ρ n).b) {s:SV} {v:Value} (k:SVR ρ w (Mof M0 ρ H) s v):SVR ρ w M' (cvS ns H s) v:=by
 cases s with
 | c s=>exact cvC_rel R hM hn k
 | tup l=>obtain ⟨vs,e,k⟩:=k;exact ⟨vs,e,cvCs_rel R hM hn k⟩
end
theorem Rel.cv (R:Rel C M0 w0 sz ρ E H a w) (ns:List Nat):Rel C M0 w0 sz ρ (cvE ns H E) (cvH ns H) a w:=by
 have lE:∀ t,look (cvE ns H E) t=(look E t).map (cvS ns H):=fun t=>look_map (f:=fun _ x=>cvS ns H x)
 have lH:∀ n,look (cvH ns H) n=(look H n).map (cvB ns H n):=fun n=>look_map (f:=fun n x=>cvB ns H n x)
 have gH:∀ n b,look (cvH ns H) n=some b→∃ b0,look H n=some b0∧cvB ns H n b0=b:=fun n b hb=>by
  rw [lH] at hb
  cases h:look H n with
  | none=>rw [h] at hb;cases hb
  | some b0=>rw [h] at hb;injection hb with hb;exact ⟨b0,rfl,hb⟩
 have hreal:∀ n b0,(cvB ns H n b0).real (ρ n)=true→b0.real (ρ n)=true:=fun n b0 h=>by
  cases b0 with
  | own c=>rfl
  | row k l v =>
   simp only [cvB] at h
   split at h
   ·simp [Blk.real] at h
   ·exact h
  | frz=>exact h
 have hM:∀ b,b<w.heap.size→Mof M0 ρ (cvH ns H) b→Mof M0 ρ H b:=by
  rintro b _ (h|⟨m,x,hm,hr,e⟩)
  ·exact .inl h
  ·obtain ⟨b0,h1,rfl⟩:=gH m x hm
   exact .inr ⟨m,b0,h1,hreal m b0 hr,e⟩
 have hn:∀ n k l v,memB n ns=true→look H n=some (.row k l v)→0<(ρ n).cap→¬ Mof M0 ρ (cvH ns H) (ρ n).b:=fun n k l v hmem hb hc=>by
  have hr:(Blk.row k l v).real (ρ n)=true:=by simpa [Blk.real] using hc
  rintro (h|⟨m,x,hm,hr',e⟩)
  ·have h1:=R.out _ h
   rcases R.lo n _ hb hr with h2|h2
   ·omega
   ·rw [(R.blk n _ hb).1.2.2.2.2] at h2;cases h2.2
  ·obtain ⟨b0,h1,rfl⟩:=gH m x hm
   have:m=n:=R.inj m n b0 _ h1 hb (hreal m b0 hr') hr e
   subst this
   rw [hb] at h1
   injection h1 with h1
   subst h1
   simp only [cvB,hmem] at hr'
   simp [Blk.real] at hr'
 have sm:∀ n,(look H n).isSome=true→(look (cvH ns H) n).isSome=true:=fun n h=>by rw [lH];simpa using h
 refine ⟨R.below,R.out,fun t y hy => ?_,fun m c hm hr => ?_,fun m c hm hr => ?_,fun m c hm => ?_,fun m m' c c' hm hm' hr hr' e => ?_,R.defers,R.size,R.pin,fun t x hx n hnn => ?_,fun n b hb m hm => ?_⟩
 ·rw [lE] at hy
  cases h:look E t with
  | none=>rw [h] at hy;cases hy
  | some x0 =>
   rw [h] at hy;injection hy with hy;subst hy
   exact cvS_rel R hM hn (R.env t x0 h)
 ·obtain ⟨b0,h1,rfl⟩:=gH m c hm
  exact R.lo m b0 h1 (hreal m b0 hr)
 ·obtain ⟨b0,h1,rfl⟩:=gH m c hm
  exact R.hi m b0 h1 (hreal m b0 hr)
 ·obtain ⟨b0,h1,rfl⟩:=gH m c hm
  obtain ⟨hs,hcl⟩:=R.blk m b0 h1
  cases b0 with
  | own cells =>
   refine ⟨trivial,fun _ => ?_⟩
   obtain ⟨cs,h3,h4⟩:=hcl rfl
   exact ⟨cs,h3,cvAs_rel R hM hn h4⟩
  | row k l v =>
   simp only [cvB]
   split
   ·exact ⟨trivial,fun hr=>by simp [Blk.real] at hr⟩
   ·refine ⟨hs,fun hr => ?_⟩
    obtain ⟨cs,h3,c1,c2,c3,vs,rest,c4,c5⟩:=hcl hr
    exact ⟨cs,h3,c1,c2,c3,vs,rest,c4,c5.mono (.refl _ w) hM⟩
  | frz=>exact ⟨trivial,fun hr=>by simp [Blk.real,cvB] at hr⟩
 ·obtain ⟨b0,h1,rfl⟩:=gH m c hm
  obtain ⟨b1,h2,rfl⟩:=gH m' c' hm'
  exact R.inj m m' b0 b1 h1 h2 (hreal m b0 hr) (hreal m' b1 hr') e
 ·rw [lE] at hx
  cases h:look E t with
  | none=>rw [h] at hx;cases hx
  | some x0 =>
   rw [h] at hx;injection hx with hx;subst hx
   exact sm n (R.clE t x0 h n (cvS_names n hnn))
 ·obtain ⟨b0,h1,rfl⟩:=gH n b hb
  cases b0 with
  | own cells=>exact sm m (R.clH n _ h1 m (cvAs_names m hm))
  | row k l v =>
   simp only [cvB] at hm
   split at hm<;>simp [Blk.names] at hm
  | frz=>simp [Blk.names,cvB] at hm
def frcEnv:Env→(Env→Prop)→Prop
 | [],k=>k []
 | (t,x)::r,k=>frcS x fun x=>frcEnv r fun r=>k ((t,x)::r)
theorem frcEnv_iff:∀ (E:Env) (k:Env→Prop),frcEnv E k↔k E
 | [],k=>Iff.rfl
 | (t,x)::r,k=>by simp only [frcEnv];rw [frcS_iff,frcEnv_iff r]
def cvK (ns:List Nat) (E:Env) (H:Hp) (k:Env→Hp→Prop):Prop:=frcEnv (cvE ns H E) fun E1=>frcHs (cvH ns H) fun H1=>k E1 H1
theorem cvK_iff (ns:List Nat) (E:Env) (H:Hp) (k:Env→Hp→Prop):cvK ns E H k↔k (cvE ns H E) (cvH ns H):=by
 unfold cvK;rw [frcEnv_iff,frcHs_iff]
theorem loop_frz (ns:List Nat) {dm:Bool} {body:Code} {k:Exit→Env→Hp→Prop} (h:LoopP P sz dm body E H (fun ex E' H'=>cvK ns E' H' fun E1 H1=>k ex E1 H1)):LoopP P sz dm body E H k :=
 ⟨fun C M0 w0 ρ a w Q hdm R hQ=>h.run C M0 w0 ρ a w Q hdm R fun ex E' H' ρ' a' w' hk R'=>hQ ex _ _ ρ' a' w' ((cvK_iff ns E' H' _).1 hk) (R'.cv ns)⟩
def nmB:Blk→Nat→Nat→Option (Nat × Blk)
 | .own l,j,n=>match nmA l j n with|some (k,l')=>some (k,.own l')|none=>none
 | _,_,_=>none
theorem loop_nameH (m j n:Nat) {dm:Bool} {body:Code} {k:Exit→Env→Hp→Prop} {b b':Blk} {kk:Nat} (hx:look H m=some b) (hn:nmB b j n=some (kk,b')) (hf:look H n=none) (h:LoopP P sz dm body E ((m,b')::(n,.row kk [] 0)::H) k) (hlt:Nat.ble (n+1) 1000=true:=by rfl):LoopP P sz dm body E H k:=by
 refine ⟨fun C M0 w0 ρ a w Q hdm R hQ=>h.run C M0 w0 (upd ρ n ⟨false,0,0,0,0⟩) a w Q hdm ?_ hQ⟩
 have R1:=R.nameRow (k:=kk) hf (.inr (.inl (Nat.le_of_ble_eq_true hlt)))
 have hmn:m≠n:=fun e=>by rw [e,hf] at hx;cases hx
 have hlk:look ((n,Blk.row kk [] 0)::H) m=some b:=by rw [look_cons,if_neg (fun e=>hmn e.symm)];exact hx
 unfold nmB at hn
 split at hn
 ·rename_i l
  split at hn
  ·rename_i k1 l1 h2
   simp only [Option.some.injEq,Prod.mk.injEq] at hn
   obtain ⟨rfl,rfl⟩:=hn
   obtain ⟨cs,hcs,hC⟩:=(R1.blk m _ hlk).2 rfl
   obtain ⟨h3,h4⟩:=nmA_rel (w:=w) h2 (upd_same _ _ _) hC
   have hMeq:∀ b,Mof M0 (upd ρ n ⟨false,0,0,0,0⟩) ((m,.own l1)::(n,.row k1 [] 0)::H) b→Mof M0 (upd ρ n ⟨false,0,0,0,0⟩) ((n,.row k1 [] 0)::H) b:=by
    rintro b (h|⟨i,x,hi,hr,e⟩)
    ·exact .inl h
    ·rw [look_cons] at hi
     split at hi
     ·rename_i e';subst e';exact .inr ⟨m,_,hlk,rfl,e⟩
     ·exact .inr ⟨i,x,hi,hr,e⟩
   have hR:=R1.known (b:=.own l1) (m:=upd ρ n ⟨false,0,0,0,0⟩ m) (w':=w) hlk (.inl rfl) rfl rfl rfl (Nat.le_refl _) (.inr (Nat.le_refl _)) (fun _ _ _=>rfl) (fun _=>.inl ⟨rfl,rfl⟩)
    (fun g1 g2=>⟨trivial,fun _=>⟨cs,hcs,by rw [upd_self];exact AtsR.mono (.refl _ w) (fun b _=>hMeq b) h3⟩⟩) (fun i hi=>by
     rcases h4 i hi with h|h
     ·exact R1.clH m _ hlk i h
     ·rw [h,look_cons,if_pos rfl];rfl)
   rwa [upd_self] at hR
  ·cases hn
 ·cases hn
structure RoundsP (P:Program) (sz n:Nat) (dm:Bool) (body:Code) (E:Env) (H:Hp) (k:Exit→Env→Hp→Prop):Prop where
 run:∀ (C M0:Nat→Prop) (w0:World) (ρ:Nat→Nm) (a:Act) (w:World) (Q:Exit→Act→World→Prop),(dm=false→C w0.heap.size)→Rel C M0 w0 sz ρ E H a w →
  (∀ ex E' H' ρ' a' w',k ex E' H'→Rel C M0 w0 sz ρ' E' H' a' w'→Q ex a' w')→Code.rounds P body Q n a w
def allB (K:List Nat):List Nat→Bool
 | []=>true
 | n::l=>match memB n K with|true=>allB K l|false=>false
def fE (K:List Nat):List Nat→Env→Env
 | _,[]=>[]
 | D,(t,x)::r=>match memB t D with
  | true=>fE K D r
  | false=>match allB K x.names with|true=>(t,x)::fE K (t::D) r|false=>fE K (t::D) r
def fH (K:List Nat):List Nat→Hp→Hp
 | _,[]=>[]
 | D,(t,x)::r=>match memB t D with
  | true=>fH K D r
  | false=>match memB t K && allB K x.names with|true=>(t,x)::fH K (t::D) r|false=>fH K (t::D) r
theorem fE_look (K:List Nat):∀ (E:Env) (D:List Nat) (t:Nat) (x:SV),look (fE K D E) t=some x→t ∉ D∧look E t=some x
 | [],D,t,x,h=>by simp [fE,look] at h
 | (k,y)::r,D,t,x,h=>by
  simp only [fE] at h
  split at h
  ·rename_i hm
   obtain ⟨h1,h2⟩:=fE_look K r D t x h
   refine ⟨h1,?_⟩
   rw [look_cons,if_neg (by rintro rfl;exact h1 (memB_iff.1 hm))]
   exact h2
  ·rename_i hm
   have hm':k ∉ D:=fun h'=>by rw [memB_iff.2 h'] at hm;cases hm
   split at h
   ·rw [look_cons] at h
    split at h
    ·rename_i e
     subst e
     injection h with h
     subst h
     exact ⟨hm',by rw [look_cons,if_pos rfl]⟩
    ·rename_i e
     obtain ⟨h1,h2⟩:=fE_look K r _ t x h
     exact ⟨fun h'=>h1 (List.mem_cons_of_mem _ h'),by rw [look_cons,if_neg e];exact h2⟩
   ·obtain ⟨h1,h2⟩:=fE_look K r _ t x h
    refine ⟨fun h'=>h1 (List.mem_cons_of_mem _ h'),?_⟩
    rw [look_cons,if_neg (by rintro rfl;exact h1 (List.mem_cons_self ..))]
    exact h2
theorem fH_look (K:List Nat):∀ (E:Hp) (D:List Nat) (t:Nat) (x:Blk),look (fH K D E) t=some x→t ∉ D∧look E t=some x
 | [],D,t,x,h=>by simp [fH,look] at h
 | (k,y)::r,D,t,x,h=>by
  simp only [fH] at h
  split at h
  ·rename_i hm
   obtain ⟨h1,h2⟩:=fH_look K r D t x h
   refine ⟨h1,?_⟩
   rw [look_cons,if_neg (by rintro rfl;exact h1 (memB_iff.1 hm))]
   exact h2
  ·rename_i hm
   have hm':k ∉ D:=fun h'=>by rw [memB_iff.2 h'] at hm;cases hm
   split at h
   ·rw [look_cons] at h
    split at h
    ·rename_i e
     subst e
     injection h with h
     subst h
     exact ⟨hm',by rw [look_cons,if_pos rfl]⟩
    ·rename_i e
     obtain ⟨h1,h2⟩:=fH_look K r _ t x h
     exact ⟨fun h'=>h1 (List.mem_cons_of_mem _ h'),by rw [look_cons,if_neg e];exact h2⟩
   ·obtain ⟨h1,h2⟩:=fH_look K r _ t x h
    refine ⟨fun h'=>h1 (List.mem_cons_of_mem _ h'),?_⟩
    rw [look_cons,if_neg (by rintro rfl;exact h1 (List.mem_cons_self ..))]
    exact h2
theorem Rel.keep (R:Rel C M0 w0 sz ρ E H a w) (K:List Nat) (h:clB (fE K [] E) (fH K [] H)=true):Rel C M0 w0 sz ρ (fE K [] E) (fH K [] H) a w:=by
 simp only [clB,Bool.and_eq_true,List.all_eq_true,keysB] at h
 exact R.less (fun t x hx=>(fE_look K E [] t x hx).2) (fun n b hb=>(fH_look K H [] n b hb).2) (fun t x hx n hn=>h.1 (t,x) (look_mem hx) n hn) (fun n b hb m hm=>h.2 (n,b) (look_mem hb) m hm)
structure CodeP (P:Program) (sz:Nat) (dm:Bool) (c:Code) (E:Env) (H:Hp) (k:Exit→Env→Hp→Prop):Prop where
 run:∀ (C M0:Nat→Prop) (w0:World) (ρ:Nat→Nm) (a:Act) (w:World) (Q:Exit→Act→World→Prop),(dm=false→C w0.heap.size)→Rel C M0 w0 sz ρ E H a w →
  (∀ ex E' H' ρ' a' w',k ex E' H'→Rel C M0 w0 sz ρ' E' H' a' w'→Q ex a' w')→c.wp P Q a w
end
end Sx
end Go.Proofs.YtfkfficabeclcaaGreatDoor

namespace Go.Proofs.YtfkfficabeclcaaGreatDoor
open Go Go.RowKit
namespace Sx
class BC (c:Bool) (p q:outParam Prop):Prop where
 t:c=true↔p
 f:c=false↔q
class BL (b:Bool):Prop where
 ok:b=b
instance:BL true:=⟨rfl⟩
instance:BL false:=⟨rfl⟩
instance bc_decide {p:Prop} [Decidable p]:BC (decide p) p (¬ p):=⟨decide_eq_true_iff,decide_eq_false_iff_not⟩
instance bc_eq {a b:Int}:BC (a == b) (a=b) (a≠b):=⟨beq_iff_eq,beq_eq_false_iff_ne⟩
instance bc_ne {a b:Int}:BC (a != b) (a≠b) (a=b):=⟨bne_iff_ne,bne_eq_false_iff_eq⟩
instance bc_beq {a b:Bool} [BL a] [BL b]:BC (a == b) (a=b) (a≠b):=⟨beq_iff_eq,beq_eq_false_iff_ne⟩
instance bc_bne {a b:Bool} [BL a] [BL b]:BC (a != b) (a≠b) (a=b):=⟨bne_iff_ne,bne_eq_false_iff_eq⟩
instance bc_lit {b:Bool} [BL b]:BC b (b=true) (b=false):=⟨Iff.rfl,Iff.rfl⟩
instance bc_not {c:Bool} {p q:Prop} [h:BC c p q]:BC (!c) q p:=⟨by rw [← h.f];cases c<;>simp,by rw [← h.t];cases c<;>simp⟩
theorem bc_t {c:Bool} {p q A B:Prop} [h:BC c p q] (e:p) (k:A):br c A B:=br_t' (h.t.2 e) k
theorem bc_f {c:Bool} {p q A B:Prop} [h:BC c p q] (e:q) (k:B):br c A B:=br_f' (h.f.2 e) k
theorem bc {c:Bool} {p q A B:Prop} [h:BC c p q] (k1:p→A) (k2:q→B):br c A B:=br_i (fun e=>k1 (h.t.1 e)) fun e=>k2 (h.f.1 e)
theorem xi {α:Sort _} {p q:α→Prop} {a:α} (h:p a) (k:q a):∃ a,p a∧q a:=⟨a,h,k⟩
theorem xd {P:Program} {f:Nat} {args:List DC} {r:DV} {k:DV→Prop} (h:FnD P f args r) (q:k r):∃ r,FnD P f args r∧k r:=⟨r,h,q⟩
theorem xb {P:Program} {f:Nat} {args:List DC} {r:DV} {k:DV→Prop} (h:FnOK P f args r) (e:flatV r=true) (q:k r):∃ r,FnB P f args r∧k r:=⟨r,⟨e,h⟩,q⟩
theorem xm {P:Program} {f k:Nat} {l:List (List D)} {args:List DC} {l':List (List D)} {q:List (List D)→Prop} (h:FnMu P f k l args l') (g:q l'):∃ l',FnMu P f k l args l'∧q l':=⟨l',h,g⟩
theorem xe {P:Program} {f:Nat} {args:List DC} {cs cs':List (List D)} {r:DV} {q:DV→List (List D)→Prop} (h:FnMem P f args cs r cs') (g:q r cs'):∃ r cs',FnMem P f args cs r cs'∧q r cs':=⟨r,cs',h,g⟩
theorem za {P:Program} {f:Nat} {args:List DC} {r:DV} {k:DV→Prop} (q:k r) (h:FnOK P f args r:=by assumption):∃ r,FnOK P f args r∧k r:=⟨r,h,q⟩
theorem zd {P:Program} {f:Nat} {args:List DC} {r:DV} {k:DV→Prop} (q:k r) (h:FnD P f args r:=by assumption):∃ r,FnD P f args r∧k r:=⟨r,h,q⟩
theorem zb {P:Program} {f:Nat} {args:List DC} {r:DV} {k:DV→Prop} (q:k r) (h:FnOK P f args r:=by assumption) (e:flatV r=true:=by exact rfl):∃ r,FnB P f args r∧k r:=⟨r,⟨e,h⟩,q⟩
theorem zo {P:Program} {f:Nat} {args:List DC} {r:OwnR} {k:OwnR→Prop} (q:k r) (h:FnOwn P f args r:=by assumption):∃ r,FnOwn P f args r∧k r:=⟨r,h,q⟩
theorem zm {P:Program} {f k:Nat} {l:List (List D)} {args:List DC} {l':List (List D)} {q:List (List D)→Prop} (g:q l') (h:FnMu P f k l args l':=by assumption):∃ l',FnMu P f k l args l'∧q l':=⟨l',h,g⟩
theorem zc {P:Program} {f k:Nat} {l:List (List D)} {args:List DC} {l':List (List D)} {q:List (List D)→Prop} (g:q l') (h:FnCon P f k l args l':=by assumption):∃ l',FnCon P f k l args l'∧q l':=⟨l',h,g⟩
theorem ze {P:Program} {f:Nat} {args:List DC} {cs cs':List (List D)} {r:DV} {q:DV→List (List D)→Prop} (g:q r cs') (h:FnMem P f args cs r cs':=by assumption):∃ r cs',FnMem P f args cs r cs'∧q r cs':=⟨r,cs',h,g⟩
theorem zl {P:Program} {f:Nat} {args:List DC} {r:DV} {k:DV→Prop} (q:k r) (h:FnOK P f args r:=by assumption) (e:flaV r=true:=by exact rfl):∃ r,FnL P f args r∧k r:=⟨r,⟨e,h⟩,q⟩
theorem zp {c:Bool} {p q A B:Prop} [h:BC c p q] (k:A) (e:p:=by first|omega|decide):br c A B:=bc_t e k
theorem zq {c:Bool} {p q A B:Prop} [h:BC c p q] (k:B) (e:q:=by first|omega|decide):br c A B:=bc_f e k
theorem zk {P:Program} {f g:Nat} {args:List DC} {cs:List D} {q:OwnR→Prop} (k:q ⟨.tup [],0,0,g,[cs]⟩) (h:FnClo P f args g cs:=by assumption):∃ r:OwnR,FnClo P f args r.k (r.l.headD [])∧q r:=⟨⟨.tup [],0,0,g,[cs]⟩,h,k⟩
theorem zg {l:List (List D)} {i n:Nat} {q:List D→Prop} {e:List D} (k:q e) (h:l[i]? = some e:=by assumption) (hn:Nat.ble n e.length=true:=by exact rfl):∃ a,(l[i]? = some a∧n≤a.length)∧q a:=⟨e,⟨h,Nat.le_of_ble_eq_true hn⟩,k⟩
theorem zt {b:Bool} {A B:Prop} (h:A) (e:b=true:=by assumption):br b A B:=br_t' e h
theorem zf {b:Bool} {A B:Prop} (h:B) (e:b=false:=by assumption):br b A B:=br_f' e h
theorem zi {A B:Prop} (k:B) (h:A:=by first|kernel_rfl|omega|(simp only [List.length_append,List.length_cons,List.length_nil,List.length_map,List.length_take,List.length_replicate];omega)|decide):A∧B:=⟨h,k⟩
section
variable {P:Program} {C M0:Nat→Prop} {w0 w:World} {sz:Nat} {ρ:Nat→Nm} {E:Env} {H:Hp} {a:Act} {Γ:Cfg}
def dsts:List Oper→List Nat
 | []=>[]
 | o::l=>match o.dst with|some d=>d::dsts l|none=>dsts l
noncomputable def wrC (c:Code):List Nat :=
 Code.rec (motive:=fun _=>List Nat)
  [] (fun _ ops _=>dsts ops.toList) (fun _ _ a b=>a++b) (fun _ _ _ a b=>a++b) (fun _ _ a=>a)
  (fun _ a=>a) (fun _ _ _ _ a b=>a++b) (fun _=>[]) (fun _ a=>a) (fun _=>[]) (fun _=>[]) [] (fun _=>[]) c
def dropL {α:Type} (ws:List Nat):List Nat→List (Nat × α)→List (Nat × α)
 | _,[]=>[]
 | D,(t,x)::r=>match memB t ws with
  | true=>dropL ws D r
  | false=>match memB t D with|true=>dropL ws D r|false=>(t,x)::dropL ws (t::D) r
def keysOf {α:Type}:List (Nat × α)→List Nat
 | []=>[]
 | (t,_)::r=>t::keysOf r
def dropS (H:Hp):Env→Env
 | []=>[]
 | (t,x)::r=>match curS H x with|true=>(t,x)::dropS H r|false=>dropS H r
def stE (ws:List Nat) (m:Env) (E:Env) (H:Hp):Env:=m++dropS H (dropL ws (keysOf m) E)
def stH (ws:List Nat) (m:Hp) (H:Hp):Hp:=m++dropL ws (keysOf m) H
def stK (body:Code) (mE:Env) (mH:Hp) (E:Env) (H:Hp) (k:Env→Hp→Prop):Prop:=frcN (wrC body) fun ws=>frcEnv (stE ws mE E H) fun E1=>frcHs (stH ws mH H) fun H1=>k E1 H1
theorem stK_iff (body:Code) (mE:Env) (mH:Hp) (E:Env) (H:Hp) (k:Env→Hp→Prop):stK body mE mH E H k↔k (stE (wrC body) mE E H) (stH (wrC body) mH H):=by
 unfold stK;rw [frcN_iff,frcEnv_iff,frcHs_iff]
theorem loop_J (hm:P.follows .mixedOrders=true) (hΓ:ΓOK P Γ) {σ:Type} (mE:σ→Env) (mH:σ→Hp) (I:σ→Prop) (μ:σ→Nat) {body:Code} {k:Exit→Env→Hp→Prop} (s0:σ) (i0:I s0) (h0:stK body (mE s0) (mH s0) E H fun E1 H1=>EntZ E H E1 H1)
  (hr:∀ s,I s→stK body (mE s) (mH s) E H fun E1 H1=>code P Γ sz body E1 H1 (fun ex E' H'=>match ex with|.normal=>∃ s',I s'∧(stK body (mE s') (mH s') E H fun E1 H1=>EntZ E' H' E1 H1)∧μ s'<μ s|ex=>k ex E' H')):LoopP P sz Γ.dm body E H k:=by
 refine ⟨fun C M0 w0 ρ a w Q hdm R hQ => ?_⟩
 refine wp_loopG (fun n a w=>∃ s ρ,I s∧μ s=n∧Rel C M0 w0 sz ρ (stE (wrC body) (mE s) E H) (stH (wrC body) (mH s) H) a w) (n:=μ s0) ⟨s0,_,i0,rfl,R.entZ ((stK_iff ..).1 h0)⟩ ?_
 rintro n a w ⟨s,ρ,hI,rfl,R⟩
 refine code_sound hm hΓ hdm body _ _ _ ((stK_iff ..).1 (hr s hI)) ρ a w _ R fun ex E' H' ρ' a' w' hk R' => ?_
 cases ex with
 | normal =>
  obtain ⟨s',h0,h1,h2⟩:=hk
  exact ⟨_,h2,s',_,h0,rfl,R'.entZ ((stK_iff ..).1 h1)⟩
 | _=>exact hQ _ _ _ _ _ _ hk R'
theorem wp_scopeG {c rest:Code} {Q:Exit→Act→World→Prop} (l:Nat) (I:Nat→Act→World→Prop) (hf:findLabel c l=some rest) (first:c.wp P (Exit.jump l (fun a w=>∃ n,I n a w) Q) a w)
  (pass:∀ n a w,I n a w→rest.wp P (Exit.jump l (fun a' w'=>∃ m,m<n∧I m a' w') Q) a w):(Code.scope c).wp P Q a w:=by
 intro b k cs
 have hg:gotoIn l (.inScope c::k)=some (.code rest::.inScope c::k):=by simp [gotoIn,hf]
 have key:∀ n a w,I n a w→∃ e a' w',Q e a' w'∧Arrives P (lone (b.at a (.code rest::.inScope c::k)) cs w) b k cs e a' w':=by
  intro n
  induction n using Nat.strongRecOn with
  | _ n ih =>
   intro a w hJ
   obtain ⟨e,a₁,w₁,hq,harr⟩:=pass n a w hJ b (.inScope c::k) cs
   cases e with
   | normal=>exact ⟨.normal,a₁,w₁,hq,Steps.trans harr (.one step_inScope)⟩
   | exit id=>exact ⟨.exit id,a₁,w₁,hq,fun k' hk=>harr k' (by simp [exitTo,hk])⟩
   | goto l' =>
    obtain ⟨rfl,m,hlt,hJ'⟩:=hq
    obtain ⟨e₂,a₂,w₂,hq₂,harr₂⟩:=ih m hlt a₁ w₁ hJ'
    exact ⟨e₂,a₂,w₂,hq₂,.of_steps (harr _ hg) harr₂⟩
   | ret=>exact ⟨_,a₁,w₁,hq,harr⟩
   | panic ch=>exact ⟨_,a₁,w₁,hq,harr⟩
   | outgrown=>exact ⟨_,a₁,w₁,hq,harr⟩
 obtain ⟨e,a₁,w₁,hq,harr⟩:=first b (.inScope c::k) cs
 cases e with
 | normal=>exact ⟨.normal,a₁,w₁,hq,.head step_scope (Steps.trans harr (.one step_inScope))⟩
 | exit id=>exact ⟨.exit id,a₁,w₁,hq,fun k' hk=>.head step_scope (harr k' (by simp [exitTo,hk]))⟩
 | goto l' =>
  obtain ⟨rfl,n,hJ'⟩:=hq
  obtain ⟨e₂,a₂,w₂,hq₂,harr₂⟩:=key n a₁ w₁ hJ'
  exact ⟨e₂,a₂,w₂,hq₂,.of_steps (.head step_scope (harr _ hg)) harr₂⟩
 | ret=>exact ⟨_,a₁,w₁,hq,.of_steps (.one step_scope) harr⟩
 | panic ch=>exact ⟨_,a₁,w₁,hq,.of_steps (.one step_scope) harr⟩
 | outgrown=>exact ⟨_,a₁,w₁,hq,.of_steps (.one step_scope) harr⟩
theorem scope_J (hm:P.follows .mixedOrders=true) (hΓ:ΓOK P Γ) (l:Nat) {σ:Type} (mE:σ→Env) (mH:σ→Hp) (I:σ→Prop) (μ:σ→Nat) {c rest:Code} {k:Exit→Env→Hp→Prop} (hl:findLabel c l=some rest)
  (h0:code P Γ sz c E H (fun ex E' H'=>match ex with|.goto l'=>l'=l∧∃ s',I s'∧(stK c (mE s') (mH s') E H fun E1 H1=>EntZ E' H' E1 H1)|ex=>k ex E' H'))
  (hr:∀ s,I s→stK c (mE s) (mH s) E H fun E1 H1=>code P Γ sz rest E1 H1 (fun ex E' H'=>match ex with|.goto l'=>l'=l∧∃ s',I s'∧(stK c (mE s') (mH s') E H fun E1 H1=>EntZ E' H' E1 H1)∧μ s'<μ s|ex=>k ex E' H')):NodeP P sz Γ.dm (.scope c) E H k:=by
 refine ⟨fun C M0 w0 ρ a w Q hdm R hQ => ?_⟩
 refine wp_scopeG l (fun n a w=>∃ s ρ,I s∧μ s=n∧Rel C M0 w0 sz ρ (stE (wrC c) (mE s) E H) (stH (wrC c) (mH s) H) a w) hl ?_ ?_
 ·refine code_sound hm hΓ hdm c _ _ _ h0 ρ a w _ R fun ex E' H' ρ' a' w' hk R' => ?_
  cases ex with
  | goto l' =>
   obtain ⟨e,s',h0,h1⟩:=hk
   exact ⟨e,_,s',_,h0,rfl,R'.entZ ((stK_iff ..).1 h1)⟩
  | _=>exact hQ _ _ _ _ _ _ hk R'
 ·rintro n a w ⟨s,ρ,hI,rfl,R⟩
  refine code_sound hm hΓ hdm rest _ _ _ ((stK_iff ..).1 (hr s hI)) ρ a w _ R fun ex E' H' ρ' a' w' hk R' => ?_
  cases ex with
  | goto l' =>
   obtain ⟨e,s',h0,h1,h2⟩:=hk
   exact ⟨e,_,h2,s',_,h0,rfl,R'.entZ ((stK_iff ..).1 h1)⟩
  | _=>exact hQ _ _ _ _ _ _ hk R'
theorem zE0:entZE H E []:=trivial
theorem zE1 {t:Nat} {x:SV} {r:Env} (h1:lookZ H E t=some x) (h2:entZE H E r):entZE H E ((t,x)::r):=⟨h1,h2⟩
theorem zH0:entZH H []:=trivial
theorem zH1 {n:Nat} {b:Blk} {r:Hp} (h1:lookZH H n=some b) (h2:entZH H r):entZH H ((n,b)::r):=⟨h1,h2⟩
theorem ent_i {k:IntKind} {a b:Int} (h:a=b):(some (sV (.int k a)):Option SV)=some (sV (.int k b)):=by rw [h]
theorem ent_b {a b:Bool} (h:a=b):(some (sV (.bool a)):Option SV)=some (sV (.bool b)):=by rw [h]
theorem zi1 {k:IntKind} {a b:Int} (h:a=b:=by first|omega|(rw [IntWalk.i64_in _ (by omega)];omega)|(simp;done)):(some (sV (.int k a)):Option SV)=some (sV (.int k b)):=ent_i h
theorem zb1 {a b:Bool} (h:a=b:=by first|omega|(rw [IntWalk.i64_in _ (by omega)];omega)|(simp;done)):(some (sV (.bool a)):Option SV)=some (sV (.bool b)):=ent_b h
theorem zent {E':Env} {H':Hp} (h1:entZE H E E':=by repeat' (first|with_reducible exact zE0|with_reducible refine zE1 ?_ ?_|rfl|assumption|(refine ent_i ?_;(first|omega|(rw [IntWalk.i64_in _ (by omega)];omega)|(simp;done)))|(refine ent_b ?_;(first|omega|(rw [IntWalk.i64_in _ (by omega)];omega)|(simp;done))))) (h2:entZH H H':=by repeat' (first|with_reducible exact zH0|with_reducible refine zH1 ?_ ?_|rfl|assumption)) (h3:clB E' H'=true:=by rfl):EntZ E H E' H':=⟨h1,h2,h3⟩
end
theorem zw {p:Prop} (h:p:=by ((repeat' ((conv=>whnf);first|(with_reducible first|refine br_t ?_|refine br_f ?_|refine za ?_|refine zg ?_|refine zo ?_|refine zb ?_|refine zm ?_|refine zc ?_|refine ze ?_|refine zk ?_)|((with_reducible refine bc_t ?_ ?_);(first|omega|decide))|((with_reducible refine bc_f ?_ ?_);(first|omega|decide))|(with_reducible first|refine bc (fun h => ?_) (fun h => ?_)|refine zt ?_|refine zf ?_|refine br_i (fun h => ?_) (fun h => ?_))|refine zg ?_|refine zi ?_|refine zb ?_|refine zl ?_));(all_goals (conv=>whnf));(all_goals rfl))):p:=h
end Sx
end Go.Proofs.YtfkfficabeclcaaGreatDoor

namespace Go.Proofs.YtfkfficabeclcaaGreatDoor
open Go Go.RowKit Go.Sort
section
variable {P:Program} {ops:Array Oper} {md:Region.Mode} {C:World→Prop}
def headQ (P:Program) (md:Region.Mode) (ops:Array Oper) (C:World→Prop) (n:Nat) (L:Array Bool→Act→Prop):Nat→Array Bool→Act→Prop
 | 0,listed,a=>L listed a
 | f+1,listed,a =>
  Region.ready md ops listed≠[]∧∀ i∈Region.ready md ops listed,i<n∧qOp P ops C i (headQ P md ops C n L f (listed.setIfInBounds i true)) a
theorem any_of_headQ {n g:Nat} {L:Array Bool→Act→Prop} {Q':Exit→Act→World→Prop} (hL:∀ listed a w,C w→L listed a→wpAny P md ops Q' g listed a w) :
  ∀ (f:Nat) (listed:Array Bool) (a:Act) (w:World),C w→headQ P md ops C n L f listed a→wpAny P md ops Q' (f+g) listed a w
 | 0,listed,a,w,hw,h=>by rw [Nat.zero_add];exact hL _ _ _ hw h
 | f+1,listed,a,w,hw,h=>by
  rw [show f+1+g=(f+g)+1 by omega]
  exact ⟨fun h0=>absurd h0 h.1,fun i hi=>wpOp_of_qOp hw (fun a' w' hw' h'=>any_of_headQ hL f _ a' w' hw' h') (h.2 i hi).2⟩
theorem headQ_first {n i:Nat} {oi:Oper} {v:Value} {L:Array Bool→Act→Prop} (hi:ops[i]? = some oi) (hsel:∀ (j:Nat) (o:Oper) cs b,ops[j]? = some o→o.op≠.select cs b)
  (hs:Region.sinkB md ops n=true) (hc:Region.chainB md ops n=true) (hn:n<ops.size) (hin:i<n)
  (hdone:∀ listed a,L listed a→∀ j∈Region.ready md ops listed,n≤j) :
  ∀ (f:Nat) (listed:Array Bool) (a:Act),HeadInv md ops n listed →
   (∀ j oj,ops[j]? = some oj→j≠i→listed.getD j true=false→(∀ e∈oj.after,Region.binds md e=true→e.on≠i)→oi.apart ops oj=true) →
   i∈Region.ready md ops listed→YieldsIn P ops C oi v a →
   headQ P md ops C n L f (listed.setIfInBounds i true) (a.put oi.dst v)→headQ P md ops C n L (f+1) listed a:=by
 intro f
 induction f with
 | zero =>
  intro listed a inv _ hr hy H
  have hun:=(mem_ready.1 hr).1
  refine ⟨fun h=>(by rw [h] at hr;cases hr),fun j hj => ?_⟩
  have hjn:j<n:=by
   rcases Nat.lt_or_ge j n with h|h
   ·exact h
   ·exact absurd hj (tail_waits hs hc hn inv _ i rfl hin hun j h)
  refine ⟨hjn,?_⟩
  by_cases hji:j=i
  ·subst hji;exact hy.qOp hi H
  ·have:=hdone _ _ H j (ready_mono hj hji)
   omega
 | succ f ih =>
  intro listed a inv hfree hr hy H
  have hun:=(mem_ready.1 hr).1
  refine ⟨fun h=>(by rw [h] at hr;cases hr),fun j hj => ?_⟩
  have hjn:j<n:=by
   rcases Nat.lt_or_ge j n with h|h
   ·exact h
   ·exact absurd hj (tail_waits hs hc hn inv _ i rfl hin hun j h)
  refine ⟨hjn,?_⟩
  by_cases hji:j=i
  ·subst hji;exact hy.qOp hi H
  ·have h1:=(H.2 j (ready_mono hj hji)).2
   obtain ⟨hjun,oj,hoj,hall⟩:=mem_ready.1 hj
   have hnot:∀ e∈oj.after,Region.binds md e=true→e.on≠i:=fun e he hb heq=>by
    have h1:=hall e he hb
    rw [heq,getD_both hun] at h1
    cases h1
   have h2:=qOp_put hoj (hfree j oj hoj hji hjun hnot) (fun cs b=>hsel i oi cs b hi) (fun cs b=>hsel j oj cs b hoj) hy h1
   have hfree':∀ k ok,ops[k]? = some ok→k≠i→(listed.setIfInBounds j true).getD k true=false →
     (∀ e∈ok.after,Region.binds md e=true→e.on≠i)→oi.apart ops ok=true:=fun k ok hk hki hun hno=>by
    refine hfree k ok hk hki ?_ hno
    by_cases hjk:j=k
    ·subst hjk;exact hjun
    ·rw [getD_set_ne true hjk] at hun;exact hun
   refine qOp_mono (fun a' h3=>ih (listed.setIfInBounds j true) a' (inv.set hj hjn) hfree' (ready_mono hr (Ne.symm hji)) h3.1 ?_) h2
   rw [Array.setIfInBounds_comm _ _ hji]
   exact h3.2
theorem headQ_lex {n g:Nat} {Lq:Act→Prop} (hsel:Region.noSelect ops=true) (hs:Region.sinkB md ops n=true) (hc:Region.chainB md ops n=true) (hn:n<ops.size) :
  ∀ (l:List Oper) (k:Nat) (listed:Array Bool) (a:Act),(∀ j,j<l.length→l[j]? = ops[k+j]?)→k+l.length=n→HeadInv md ops n listed →
  Region.lexHead md ops g l.length k listed=true→wpQuiet P ops C Lq l a →
  headQ P md ops C n (fun listed' a'=>Region.seqB md ops g n listed'=true∧Lq a') l.length listed a
 | [],k,listed,a,_,hk,_,hB,h=>by
  have:k=n:=by simpa using hk
  subst this
  exact ⟨by simpa [Region.lexHead] using hB,h⟩
 | o::l,k,listed,a,hl,hk,inv,hB,h=>by
  have h0:ops[k]? = some o:=by simpa using (hl 0 (by simp)).symm
  simp only [List.length_cons,Region.lexHead,Bool.and_eq_true] at hB
  obtain ⟨⟨hr,hf⟩,hB'⟩:=hB
  have hkn:k<n:=by simp only [List.length_cons] at hk;omega
  have hr':k∈Region.ready md ops listed:=by simpa using hr
  have hst:qOp P ops C k (wpQuiet P ops C Lq l) a:=by unfold qOp;simp only [h0];exact h
  obtain ⟨v,hy,hK⟩:=yieldsIn_of_qOp h0 hst
  exact headQ_first h0 (Region.noSelect_spec hsel) hs hc hn hkn (fun listed' a' hL=>seqB_ready hL.1) l.length listed a inv (Region.free_spec h0 hf) hr' hy
   (headQ_lex hsel hs hc hn l (k+1) _ _ (fun j hj=>by have:=hl (j+1) (by simp;omega);simpa [Nat.add_assoc,Nat.add_comm 1 j] using this) (by simp only [List.length_cons] at hk;omega) (inv.set hr' hkn) hB' hK)
theorem wp_region_quiet_tail {id:Nat} {Q:Exit→Act→World→Prop} {a:Act} {w:World} {l:List Oper} (n:Nat) (hm:P.follows .mixedOrders=true) (hB:Region.lexTailB .any l.toArray n=true)
  (hC:C { w with drawn:=w.drawn+1 })
  (h:wpQuiet P l.toArray C (fun a'=>∀ w',C w'→wpList P l.toArray Q (l.drop n) a' w') (l.take n) a):(Code.region id l.toArray true).wp P Q a w:=by
 simp only [Region.lexTailB,Bool.and_eq_true,decide_eq_true_eq] at hB
 obtain ⟨⟨⟨⟨hsel,hn⟩,hs⟩,hc⟩,hlex⟩:=hB
 have hn':n<l.length:=by simpa using hn
 have htl:(l.take n).length=n:=by simp;omega
 have hdl:(l.drop n).length=l.toArray.size-n:=by simp
 have inv0:HeadInv .any l.toArray n (Array.replicate l.toArray.size false) :=
  ⟨by simp,fun j oj _ hl=>(by rw [getD_replicate_false] at hl;cases hl),fun t _ ht=>getD_in (by simpa using ht) (getD_replicate_false _ _)⟩
 have H:=headQ_lex (md:=.any) (g:=l.toArray.size-n) hsel hs hc hn (l.take n) 0 _ a (fun j hj=>by
  have hj':j<n:=by rw [htl] at hj;exact hj
  simp [hj']) (by simpa using htl) inv0 (by rw [htl];exact hlex) h
 refine wp_region_any hm ?_
 have:=any_of_headQ (Q':=Q) (g:=l.toArray.size-n) (fun listed a' w' hw' hL=>by
  have:=wpAny_of_seq (md:=.any) (Q':=Q) (l.drop n) n listed a' w' (fun j=>by simp [List.getElem?_drop]) (by rw [hdl];exact hL.1) (hL.2 w' hw')
  rwa [hdl] at this) _ _ _ _ hC H
 rw [htl,show n+(l.toArray.size-n)=l.toArray.size by omega] at this
 exact this
theorem wp_region_tail_below {id:Nat} {Q:Exit→Act→World→Prop} {a:Act} {w:World} {l:List Oper} (n:Nat) (hm:P.follows .mixedOrders=true) (hB:Region.lexTailB .any l.toArray n=true)
  (h:wpQuiet P l.toArray (fun w'=>∃ p:Regrown,w'=grow (redrawn w p.d) p.os) (fun a'=>∀ w',(∃ p:Regrown,w'=grow (redrawn w p.d) p.os)→wpList P l.toArray Q (l.drop n) a' w') (l.take n) a) :
  (Code.region id l.toArray true).wp P Q a w :=
 wp_region_quiet_tail (C:=fun w'=>∃ p:Regrown,w'=grow (redrawn w p.d) p.os) n hm hB ⟨⟨w.drawn+1,#[]⟩,by rw [grow_empty];rfl⟩ h
end
end Go.Proofs.YtfkfficabeclcaaGreatDoor
