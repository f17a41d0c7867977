import Derived.Test.YtddbmpbihpkabaaGreatGLGPartsAD
import Derived.Deep.AppendSrc
set_option linter.all false
namespace Go.Proofs.YtddbmpbihpkabaaGreat
open Go Go.RowKit
namespace Sx
section
variable {P:Program} {C M0:Nat→Prop} {w0 w:World} {sz:Nat} {ρ:Nat→Nm} {E:Env} {H:Hp} {a:Act} {o:Oper} {x:Eff} {Γ:Cfg}
theorem flatL_rel {w w':World} {M M':Nat→Prop}:∀ {l:List D} {us:List Value},flatL l=true→DsR w M l us→DsR w' M' l us
 | [],[],_,_=>trivial
 | .v y::l,u::us,h,k=>by
  refine ⟨?_,flatL_rel (by simpa [flatL] using h) k.2⟩
  have:=k.1
  cases this with
  | v _ h1 h2=>exact .v _ h1 h2
 | .nil _::l,_::us,h,_=>by simp [flatL] at h
 | .emp _::l,_::us,h,_=>by simp [flatL] at h
 | .list _ _::l,_::us,h,_=>by simp [flatL] at h
 | .ref _::l,_::us,h,_=>by simp [flatL] at h
 | .clo _ _::l,_::us,h,_=>by simp [flatL] at h
 | [],_::_,_,k=>k.elim
 | _::_,[],_,k=>k.elim
theorem flatC_rel {w w':World} {M M':Nat→Prop} {c:DC} {v:Value} (h:flatC c=true) (k:DCR w M c v):DCR w' M' c v:=by
 cases c with
 | one y =>
  have:DsR w M [y] [v]:=⟨k,trivial⟩
  exact (flatL_rel (w':=w') (M':=M') h this).1
 | agg l=>obtain ⟨vs,e,k⟩:=k;exact ⟨vs,e,flatL_rel h k⟩
theorem flatCs_rel {w w':World} {M M':Nat→Prop}:∀ {l:List DC} {us:List Value},flatCs l=true→DCsR w M l us→DCsR w' M' l us
 | [],[],_,_=>trivial
 | c::l,u::us,h,k=>by
  simp only [flatCs] at h
  split at h
  ·rename_i hc;exact ⟨flatC_rel hc k.1,flatCs_rel h k.2⟩
  ·cases h
 | [],_::_,_,k=>k.elim
 | _::_,[],_,k=>k.elim
theorem flatV_rel {w w':World} {M M':Nat→Prop} {r:DV} {v:Value} (h:flatV r=true) (k:DVR w M r v):DVR w' M' r v:=by
 cases r with
 | c c=>exact flatC_rel h k
 | tup l=>obtain ⟨vs,e,k⟩:=k;exact ⟨vs,e,flatCs_rel h k⟩
theorem Rel.Mlt (R:Rel C M0 w0 sz ρ E H a w):∀ b,Mof M0 ρ H b→b<w.heap.size:=fun b hb=>by
 rcases hb with hb|⟨n,x,hn,hr,rfl⟩
 ·exact Nat.lt_of_lt_of_le (R.out b hb) R.below.size
 ·exact R.hi n x hn hr
theorem Rel.gdw (R:Rel C M0 w0 sz ρ E H a w):Gd w:=gd_keep R.below.size (fun b hb=>R.below.block b (Nat.lt_of_lt_of_le hb (gd_size R.out.gd)) fun h=>by have:=R.out.gc b h;omega) R.out.gd
theorem Rel.mlo (R:Rel C M0 w0 sz ρ E H a w):Lo w (Mof M0 ρ H):=⟨R.Mlt,R.gdw,fun b hb=>by
 rcases hb with hb|⟨n,x,hn,hr,rfl⟩
 ·exact R.out.ge b hb
 ·rcases R.lo n x hn hr with h|h
  ·exact Nat.le_trans (gd_size R.out.gd) h
  ·exact R.out.gc _ h.1⟩
theorem Rel.flo (R:Rel C M0 w0 sz ρ E H a w):Lo w (fun _=>False):=⟨fun _ h=>h.elim,R.gdw,fun _ h=>h.elim⟩
theorem caps_rel (R:Rel C M0 w0 sz ρ E H a w) {M':Nat→Prop} (h1:∀ b,b<w.heap.size→M' b→Mof M0 ρ H b) (h2:∀ n cs,look H n=some (.own cs)→¬ M' (ρ n).b) {h:Nat→Option Blk} (hh:∀ n b,h n=some b→look H n=some b) :
  ∀ {caps:List Nat} {cs:List (List D)},capsD h caps=some cs→∀ i,(hi:i<cs.length)→∃ n,caps[i]? = some n∧Rep w M' (.ref cs[i]) (.pointer (some ⟨(ρ n).b,0,none⟩))
 | [],cs,hc=>by simp [capsD] at hc;subst hc;intro i hi;simp at hi
 | n::r,cs,hc=>by
  simp only [capsD] at hc
  split at hc
  ·rename_i cells hn
   split at hc
   ·rename_i ds rs hds hrs
    injection hc with hc
    subst hc
    intro i hi
    cases i with
    | zero =>
     refine ⟨n,rfl,?_⟩
     have hl:=hh _ _ hn
     obtain ⟨us,hc,hR⟩:=(R.blk n _ hl).2 rfl
     have hR:AtsR ρ w (Mof M0 ρ H) cells us:=hR
     have hD:=(atsD_rel' hds hR).mono (.refl _ w) h1
     refine .ref (fun j=>us.getD j undef) (h2 n _ hl) (R.hi n _ hl rfl) (fun j hj => ?_) (fun j hj => ?_)
     ·have:j<us.length:=by rw [hD.length];exact hj
      rw [Nat.zero_add,cell_of hc]
      simp [List.getElem?_eq_getElem this]
     ·obtain ⟨u,hu,hr⟩:=hD.get j _ (List.getElem?_eq_getElem hj)
      have:us.getD j undef=u:=by rw [List.getD_eq_getElem?_getD,hu];rfl
      rw [this];exact hr
    | succ i =>
     obtain ⟨m,e,hr⟩:=caps_rel R h1 h2 hh hrs i (by simpa using hi)
     exact ⟨m,by simpa using e,by simpa using hr⟩
   ·cases hc
  ·cases hc
theorem caps_len {h:Nat→Option Blk}:∀ {caps:List Nat} {cs:List (List D)},capsD h caps=some cs→cs.length=caps.length
 | [],cs,hc=>by simp [capsD] at hc;subst hc;rfl
 | n::r,cs,hc=>by
  simp only [capsD] at hc
  split at hc
  ·split at hc
   ·rename_i ds rs hds hrs
    injection hc with hc
    subst hc
    simp [caps_len hrs]
   ·cases hc
  ·cases hc
theorem clo_rel (R:Rel C M0 w0 sz ρ E H a w) {M':Nat→Prop} (h1:∀ b,b<w.heap.size→M' b→Mof M0 ρ H b) {f:Nat} {caps:List Nat} (h2:caps≠[]→∀ n cs,look H n=some (.own cs)→¬ M' (ρ n).b) {h:Nat→Option Blk} (hh:∀ n b,h n=some b→look H n=some b)
  {cs:List (List D)} (hc:capsD h caps=some cs) {v:Value} (hv:AtR ρ w (Mof M0 ρ H) (.fn f caps) v):Rep w M' (.clo f cs) v:=by
 obtain ⟨_,rfl⟩:=hv
 have hl:=caps_len hc
 have:=Rep.clo (w:=w) (M:=M') (g:=f) (caps:=cs) (fun i=>match caps[i]? with|some n=>.pointer (some ⟨(ρ n).b,0,none⟩)|none=>undef) (fun i hi=>by
  have hne:caps≠[]:=by rintro rfl;simp at hl;subst hl;simp at hi
  obtain ⟨n,e,hr⟩:=caps_rel R h1 (h2 hne) hh hc i hi
  rw [e];exact hr)
 have e:(List.map (fun i=>match caps[i]? with|some n=>Value.pointer (some ⟨(ρ n).b,0,none⟩)|none=>undef) (List.range cs.length))=caps.map fun n=>Value.pointer (some ⟨(ρ n).b,0,none⟩):=by
  rw [hl]
  apply List.ext_getElem
  ·simp
  ·intro i h1 h2
   simp at h1 h2
   simp [List.getElem?_eq_getElem h1]
 rw [e] at this
 exact this
theorem refs_rel (R:Rel C M0 w0 sz ρ E H a w) {M':Nat→Prop} (h1:∀ b,b<w.heap.size→M' b→Mof M0 ρ H b) {caps:List Nat} (h2:caps≠[]→∀ n cs,look H n=some (.own cs)→¬ M' (ρ n).b) {h:Nat→Option Blk} (hh:∀ n b,h n=some b→look H n=some b) :
  ∀ {l:List Nat} {cs:List (List D)},(l≠[]→caps≠[])→capsD h l=some cs→DCsR w M' (refsC cs) (l.map fun n=>Value.pointer (some ⟨(ρ n).b,0,none⟩)):=by
 intro l
 induction l with
 | nil=>intro cs _ hc;simp [capsD] at hc;subst hc;trivial
 | cons n r ih =>
  intro cs hne hc
  have hc0:=hc
  simp only [capsD] at hc
  split at hc
  ·split at hc
   ·rename_i ds rs hds hrs
    injection hc with hc
    subst hc
    obtain ⟨m,e,hr⟩:=caps_rel R h1 (h2 (hne (by simp))) hh hc0 0 (by simp)
    simp at e
    subst e
    exact ⟨hr,ih (fun _=>hne (by simp)) hrs⟩
   ·cases hc
  ·cases hc
theorem crefs_rel {M':Nat→Prop} {f:Nat} {cs:List (List D)} {v:Value} (hv:Rep w M' (.clo f cs) v):∃ ps:List Value,v=.func (.func f) #[] ps.toArray∧DCsR w M' (refsC cs) ps:=by
 cases hv with
 | clo ps hr =>
  refine ⟨_,rfl,?_⟩
  have key:∀ (cs:List (List D)) (k:Nat) (ps:Nat→Value),(∀ i,(hi:i<cs.length)→Rep w M' (.ref cs[i]) (ps (k+i)))→DCsR w M' (refsC cs) ((List.range' k cs.length).map ps):=by
   intro cs
   induction cs with
   | nil=>intros;trivial
   | cons c cs ih =>
    intro k ps hr
    rw [List.length_cons,List.range'_succ,List.map_cons]
    refine ⟨show Rep w M' (.ref c) (ps k) from hr 0 (Nat.succ_pos _),ih (k+1) ps fun i hi => ?_⟩
    have:=hr (i+1) (by simp;omega)
    rw [show k+(i+1)=k+1+i by omega] at this
    simpa using this
  have:=key cs 0 ps (fun i hi=>by rw [Nat.zero_add];exact hr i hi)
  rwa [← List.range_eq_range'] at this
theorem argOf_rel (R:Rel C M0 w0 sz ρ E H a w) {M':Nat→Prop} (h1:∀ b,b<w.heap.size→M' b→Mof M0 ρ H b) {h:Nat→Option Blk} (hh:∀ n b,h n=some b→look H n=some b) {s:SV} (h2:lendB [some s]=true→∀ n cs,look H n=some (.own cs)→¬ M' (ρ n).b)
  {c:DC} {v:Value} (hs:argOf h s=some c) (k:SVR ρ w (Mof M0 ρ H) s v):DCR w M' c v:=by
 unfold argOf at hs
 split at hs
 ·rename_i y
  have hr:Rep w M' (normD y) v:=Rep.norm (Rep.mono k (.refl _ w) h1)
  split at hs<;>(injection hs with hs;subst hs;exact hr)
 ·rename_i n v0
  split at hs
  ·rename_i k0 v' hb
   split at hs
   ·rename_i hv
    injection hs with hs;subst hs
    have hv:v0=v':=by simpa using hv
    subst hv
    obtain ⟨e1,e2,e3,e4⟩:=k
    obtain ⟨⟨k1,k2,k3,k4,k5⟩,hreal⟩:=R.blk n _ (hh _ _ hb)
    obtain ⟨z,rfl,hz⟩:=e4 (by omega)
    rw [← k2]
    refine .nil k0 z _ ?_ (fun h=>by
     rcases Nat.eq_zero_or_pos (ρ n).cap with h0|h0
     ·exact h0
     ·rw [hz h0] at h;cases h)
    rcases Nat.eq_zero_or_pos (ρ n).cap with h|h
    ·omega
    ·obtain ⟨cs,_,c1,c2,_⟩:=hreal (by simpa [Blk.real] using h)
     exact c2
   ·cases hs
  ·cases hs
 ·rename_i f caps
  split at hs
  ·rename_i cs hc
   injection hs with hs;subst hs
   refine clo_rel R h1 (fun hne=>h2 ?_) hh hc k
   cases caps with
   | nil=>exact absurd rfl hne
   | cons n r=>rfl
  ·cases hs
 ·split at hs
  ·rename_i l r hr
   injection hs with hs;subst hs
   obtain ⟨us,rfl,k⟩:=k
   exact ⟨us,rfl,(atsD_rel' hr k).mono (.refl _ w) h1⟩
  ·cases hs
 ·cases hs
theorem lendB_cons {y:Option SV} {l:List (Option SV)}:lendB (y::l)=(lendB [y] || lendB l):=by
 simp only [lendB]
 cases lend1 y<;>rfl
theorem argsOf_rel (R:Rel C M0 w0 sz ρ E H a w) {M':Nat→Prop} (h1:∀ b,b<w.heap.size→M' b→Mof M0 ρ H b) {h:Nat→Option Blk} (hh:∀ n b,h n=some b→look H n=some b) :
  ∀ {ys:List Operand} {args:List DC},(lendB (ys.map (ev (look E)))=true→∀ n cs,look H n=some (.own cs)→¬ M' (ρ n).b)→argsOf h (ys.map (ev (look E)))=some args→DCsR w M' args (ys.map a.eval)
 | [],args,h2,hs=>by simp [argsOf] at hs;subst hs;trivial
 | y::ys,args,h2,hs=>by
  simp only [List.map_cons] at hs h2
  rw [lendB_cons] at h2
  cases hy:ev (look E) y with
  | none=>rw [hy] at hs;simp [argsOf] at hs
  | some s =>
   rw [hy] at hs h2
   simp only [argsOf] at hs
   split at hs
   ·rename_i c r hc hr
    injection hs with hs
    subst hs
    exact ⟨argOf_rel R h1 hh (fun hl=>h2 (by rw [hl];rfl)) hc (ev_ok R hy).1,argsOf_rel R h1 hh (fun hl=>h2 (by rw [hl];simp)) hr⟩
   ·cases hs
theorem refL_eq:∀ {cs:List (List D)} {r:List DC},refL cs=some r→r=refsC cs
 | [],r,h=>by simp [refL] at h;subst h;rfl
 | c::cs,r,h=>by
  simp only [refL] at h
  split at h
  ·rename_i r' hr;injection h with h;subst h;rw [refL_eq hr];rfl
  ·cases h
theorem catL_eq:∀ {l:List DC} {cs:List (List D)} {r:List DC},catL l cs=some r→r=l++refsC cs
 | [],cs,r,h=>by rw [refL_eq h];rfl
 | a::l,cs,r,h=>by
  simp only [catL] at h
  split at h
  ·rename_i r' hr;injection h with h;subst h;rw [catL_eq hr];rfl
  ·cases h
theorem exec_call {c:Call} {f:Nat} {fo:Operand} {cb:List Value} (ho:o.op=.call c) (hc:c.callee=.value fo) (hfv:a.eval fo=.func (.func f) #[] cb.toArray):(execOp a.eval o).run P w=(callFunc f (c.args.toList.map a.eval++cb).toArray).run P w:=by
 have hargs:(c.args.map a.eval)=(c.args.toList.map a.eval).toArray:=by apply Array.ext';simp
 have h1:(resolve a.eval c o.type)=pure { target:=.fn (.func f) cb.toArray,args:=(c.args.toList.map a.eval).toArray }:=by
  unfold resolve
  simp only [hc,hfv,Deferred.ofValue,hargs]
  congr 2
  apply Array.ext'
  simp
 simp only [execOp,ho,Sem.run_bind,h1,Sem.run_pure,Result.andThen_ok,invoke]
 rw [show ((c.args.toList.map a.eval).toArray++cb.toArray:Array Value)=(c.args.toList.map a.eval++cb).toArray by simp]
theorem fnBQ {dm:Bool} {f:Nat} {args:List DC} {r:DV} (h:FnBQ dm P f args r):flatV r=true∧FnQ dm P f args r:=by
 cases dm<;>exact h
theorem st_fn {dm:Bool} (R:Rel C M0 w0 sz ρ E H a w) {M':Nat→Prop} (hM':Lo w M') {f:Nat} {vs:List Value} {args:List DC} {r:DV} (hrun:(execOp a.eval o).run P w=(callFunc f vs.toArray).run P w) (ha:DCsR w M' args vs) (hr:FnQ dm P f args r) (hdm:dm=false→C w0.heap.size)
  (hback:∀ w' v,DVR w' M' r v→DVR w' (Mof M0 ρ H) r v) {d:Nat} (hd:o.dst=some d) (hlt:d<sz):StepOK P C M0 w0 sz E H o (.val (embV r)) a w:=by
 intro next Q hn
 unfold Oper.wp
 rw [hrun]
 have hr:(∃ g,(callFunc f vs.toArray).run P w=.ok (.enter g vs.toArray) w∧Calls P g vs.toArray w fun e w'=>∃ v,e=.returned v∧DVR w' M' r v∧Below w.heap.size w w'∧(C w0.heap.size∨w.drawn≤w'.drawn)) ∨
   (∃ v,(callFunc f vs.toArray).run P w=.ok (.value v) w∧DVR w M' r v):=by
  cases dm with
  | true=>exact (show FnD P f args r from hr) w M' _ hM' ha |>.imp (fun ⟨g,hg,hc⟩=>⟨g,hg,hc.mono fun _ _ ⟨v,e,hv,hb,hd⟩=>⟨v,e,hv,hb,.inr hd⟩⟩) fun h=>h
  | false=>exact (show FnOK P f args r from hr) w M' _ hM' ha |>.imp (fun ⟨g,hg,hc⟩=>⟨g,hg,hc.mono fun _ _ ⟨v,e,hv,hb⟩=>⟨v,e,hv,hb,.inl (hdm rfl)⟩⟩) fun h=>h
 rcases hr with ⟨g,hg,hr⟩|⟨v,hg,hv⟩
 ·rw [hg,Oper.upon_enter]
  refine hr.mono ?_
  rintro e w' ⟨v,rfl,hv,hb,hdr⟩
  exact hn ρ v w' ((R.grow hb hdr).val (dst:=o.dst) (fun d' h=>by rw [hd] at h;injection h with h;omega) (DVR.emb (hback _ _ hv)) embV_names)
 ·rw [hg,Oper.upon_value]
  exact hn ρ v w (R.val (dst:=o.dst) (fun d' h=>by rw [hd] at h;injection h with h;omega) (DVR.emb (hback _ _ hv)) embV_names)
theorem st_call {dm:Bool} (R:Rel C M0 w0 sz ρ E H a w) {c:Call} {f:Nat} {fo:Operand} {args:List DC} {r:DV} {h:Nat→Option Blk} (hh:∀ n b,h n=some b→look H n=some b) (ho:o.op=.call c) (hc:c.callee=.value fo) (hf:ev (look E) fo=some (.c (.at (.fn f []))))
  (hl:lendB (c.args.toList.map (ev (look E)))=false) (ha:argsOf h (c.args.toList.map (ev (look E)))=some args) (hr:FnQ dm P f args r) (hdm:dm=false→C w0.heap.size) {d:Nat} (hd:o.dst=some d) (hlt:d<sz):StepOK P C M0 w0 sz E H o (.val (embV r)) a w:=by
 have hfv:a.eval fo=.func (.func f) #[] ([]:List Value).toArray:=by
  have:=(ev_ok R hf).1.2
  simpa using this
 refine st_fn R R.mlo (exec_call ho hc hfv) ?_ hr hdm (fun _ _ h=>h) hd hlt
 rw [List.append_nil]
 exact argsOf_rel R (fun _ _ h=>h) hh (fun h=>by rw [hl] at h;cases h) ha
theorem DCsR.append {M:Nat→Prop}:∀ {a b:List DC} {u v:List Value},DCsR w M a u→DCsR w M b v→DCsR w M (a++b) (u++v)
 | [],b,[],v,_,h=>h
 | x::a,b,y::u,v,h,k=>⟨h.1,DCsR.append h.2 k⟩
 | [],_,_::_,_,h,_=>h.elim
 | _::_,_,[],_,h,_=>h.elim
theorem st_callB {dm:Bool} (R:Rel C M0 w0 sz ρ E H a w) {c:Call} {f:Nat} {fo:Operand} {caps:List Nat} {cs:List (List D)} {args:List DC} {r:DV} {h:Nat→Option Blk} (hh:∀ n b,h n=some b→look H n=some b) (ho:o.op=.call c) (hc:c.callee=.value fo) (hf:ev (look E) fo=some (.c (.at (.fn f caps))))
  (hcs:capsD h caps=some cs) (ha:argsOf h (c.args.toList.map (ev (look E)))=some args) (hr:FnBQ dm P f (args++refsC cs) r) (hdm:dm=false→C w0.heap.size) {d:Nat} (hd:o.dst=some d) (hlt:d<sz):StepOK P C M0 w0 sz E H o (.val (embV r)) a w:=by
 have hfv:=(ev_ok R hf).1.2
 obtain ⟨hfl,hq⟩:=fnBQ hr
 refine st_fn R (M':=fun _=>False) R.flo (exec_call ho hc (cb:=caps.map fun n=>Value.pointer (some ⟨(ρ n).b,0,none⟩)) hfv) ?_ hq hdm (fun _ _ h=>flatV_rel hfl h) hd hlt
 exact (argsOf_rel R (fun _ _ h=>h.elim) hh (fun _ _ _ _ h=>h) ha).append (refs_rel R (fun _ _ h=>h.elim) (caps:=caps) (fun _ _ _ _ h=>h) hh (fun h=>h) hcs)
theorem st_callC {dm:Bool} (R:Rel C M0 w0 sz ρ E H a w) {c:Call} {f:Nat} {fo:Operand} {cs:List (List D)} {args:List DC} {r:DV} {h:Nat→Option Blk} (hh:∀ n b,h n=some b→look H n=some b) (ho:o.op=.call c) (hc:c.callee=.value fo) (hf:ev (look E) fo=some (.c (.at (.d (.clo f cs)))))
  (hl:lendB (c.args.toList.map (ev (look E)))=false) (ha:argsOf h (c.args.toList.map (ev (look E)))=some args) (hr:FnQ dm P f (args++refsC cs) r) (hdm:dm=false→C w0.heap.size) {d:Nat} (hd:o.dst=some d) (hlt:d<sz):StepOK P C M0 w0 sz E H o (.val (embV r)) a w:=by
 obtain ⟨ps,hfv,hps⟩:=crefs_rel (show Rep w (Mof M0 ρ H) (.clo f cs) (a.eval fo) from (ev_ok R hf).1)
 exact st_fn R R.mlo (exec_call ho hc hfv) ((argsOf_rel R (fun _ _ h=>h) hh (fun h=>by rw [hl] at h;cases h) ha).append hps) hr hdm (fun _ _ h=>h) hd hlt
theorem st_callCB {dm:Bool} (R:Rel C M0 w0 sz ρ E H a w) {c:Call} {f:Nat} {fo:Operand} {cs:List (List D)} {args:List DC} {r:DV} {h:Nat→Option Blk} (hh:∀ n b,h n=some b→look H n=some b) (ho:o.op=.call c) (hc:c.callee=.value fo) (hf:ev (look E) fo=some (.c (.at (.d (.clo f cs)))))
  (ha:argsOf h (c.args.toList.map (ev (look E)))=some args) (hr:FnBQ dm P f (args++refsC cs) r) (hdm:dm=false→C w0.heap.size) {d:Nat} (hd:o.dst=some d) (hlt:d<sz):StepOK P C M0 w0 sz E H o (.val (embV r)) a w:=by
 obtain ⟨ps,hfv,hps⟩:=crefs_rel ((show Rep w (Mof M0 ρ H) (.clo f cs) (a.eval fo) from (ev_ok R hf).1).mono (.refl _ w) (M':=fun _=>False) fun _ _ h=>h.elim)
 obtain ⟨hfl,hq⟩:=fnBQ hr
 exact st_fn R (M':=fun _=>False) R.flo (exec_call ho hc hfv) ((argsOf_rel R (fun _ _ h=>h.elim) hh (fun _ _ _ _ h=>h) ha).append hps) hq hdm (fun _ _ h=>flatV_rel hfl h) hd hlt
theorem AtsR.osl {ρ':Nat→Nm} {M M':Nat→Prop} {d e0:Nat} (h0:ρ' d=ρ e0) (hM:∀ b,b<w.heap.size→M' b→M b):∀ {l:List D} {j:Nat} {vs:List Value},AtsR ρ w M (setAt (l.map .d) j (.osl e0 0)) vs→AtsR ρ' w M' (setAt (l.map .d) j (.osl d 0)) vs
 | [],j,vs,h=>by cases vs<;>exact h
 | y::l,0,v::vs,h=>by
  refine ⟨?_,?_⟩
  ·have:=h.1
   simp only [AtR] at this ⊢
   rw [h0];exact this
  ·exact DsR.ats.1 ((DsR.ats.2 h.2).mono (.refl _ w) hM)
 | y::l,0,[],h=>h.elim
 | y::l,j+1,v::vs,h=>⟨Rep.mono h.1 (.refl _ w) hM,AtsR.osl h0 hM h.2⟩
 | y::l,j+1,[],h=>h.elim
theorem SCR.osl {ρ':Nat→Nm} {M M':Nat→Prop} {d e0:Nat} (h0:ρ' d=ρ e0) (hM:∀ b,b<w.heap.size→M' b→M b) {c:DC} {j:Nat} {v:Value} (h:SCR ρ w M (embOC e0 c j) v):SCR ρ' w M' (embOC d c j) v:=by
 cases c with
 | one y =>
  simp only [embOC,SCR,AtR] at h ⊢
  rw [h0];exact h
 | agg l =>
  obtain ⟨vs,e,h⟩:=h
  exact ⟨vs,e,AtsR.osl h0 hM h⟩
theorem SCR.emb_mono {ρ':Nat→Nm} {M M':Nat→Prop} (hM:∀ b,b<w.heap.size→M' b→M b) {c:DC} {v:Value} (h:SCR ρ w M (embC c) v):SCR ρ' w M' (embC c) v :=
 SCR.rename (fun n hn=>by rw [names_embC] at hn;cases hn) (SCR.mono (.refl _ w) hM h)
theorem SCsR.emb_mono {ρ':Nat→Nm} {M M':Nat→Prop} (hM:∀ b,b<w.heap.size→M' b→M b):∀ {l:List DC} {vs:List Value},SCsR ρ w M (l.map embC) vs→SCsR ρ' w M' (l.map embC) vs
 | [],[],h=>h
 | c::l,v::vs,h=>⟨SCR.emb_mono hM h.1,SCsR.emb_mono hM h.2⟩
 | [],_::_,h=>h.elim
 | _::_,[],h=>h.elim
theorem SCsR.osl {ρ':Nat→Nm} {M M':Nat→Prop} {d e0:Nat} (h0:ρ' d=ρ e0) (hM:∀ b,b<w.heap.size→M' b→M b):∀ {l:List DC} {i j:Nat} {c:DC} {vs:List Value},SCsR ρ w M (setAt (l.map embC) i (embOC e0 c j)) vs→SCsR ρ' w M' (setAt (l.map embC) i (embOC d c j)) vs
 | [],i,j,c,vs,h=>by cases vs<;>exact h
 | y::l,0,j,c,v::vs,h=>⟨SCR.osl h0 hM h.1,SCsR.emb_mono hM h.2⟩
 | y::l,0,j,c,[],h=>h.elim
 | y::l,i+1,j,c,v::vs,h=>⟨SCR.emb_mono hM h.1,SCsR.osl h0 hM h.2⟩
 | y::l,i+1,j,c,[],h=>h.elim
theorem SVR.osl {ρ':Nat→Nm} {M M':Nat→Prop} {d e0:Nat} (h0:ρ' d=ρ e0) (hM:∀ b,b<w.heap.size→M' b→M b) {q:OwnR} {v:Value} (h:SVR ρ w M (embO e0 q) v):SVR ρ' w M' (embO d q) v:=by
 unfold embO at *
 split at h
 ·rename_i c hc
  exact SCR.osl h0 hM h
 ·rename_i l hl
  split at h
  ·rename_i c hc
   obtain ⟨vs,e,h⟩:=h
   exact ⟨vs,e,SCsR.osl h0 hM h⟩
  ·obtain ⟨vs,e,h⟩:=h
   refine ⟨vs,e,?_⟩
   cases vs<;>exact h
theorem names_setAt {d j:Nat}:∀ {l:List D},∀ m∈namesA (setAt (l.map .d) j (.osl d 0)),m=d:=by
 intro l
 induction l generalizing j with
 | nil=>intro m hm;simp [setAt,namesA] at hm
 | cons y l ih =>
  intro m hm
  cases j with
  | zero =>
   have e:namesA (At.osl d 0::List.map At.d l)=d::namesA (List.map At.d l):=rfl
   rw [List.map_cons,setAt,e,names_map_d] at hm
   simpa using hm
  | succ j=>exact ih m (by simpa [setAt,namesA,At.names] using hm)
theorem names_embOC {d j:Nat} {c:DC}:∀ m∈(embOC d c j).names,m=d:=by
 cases c with
 | one y=>intro m hm;simpa [embOC,SC.names,At.names] using hm
 | agg l=>exact names_setAt
theorem names_setAtC {d i j:Nat} {c:DC}:∀ {l:List DC},∀ m∈namesC (setAt (l.map embC) i (embOC d c j)),m=d:=by
 intro l
 induction l generalizing i with
 | nil=>intro m hm;simp [setAt,namesC] at hm
 | cons y l ih =>
  intro m hm
  cases i with
  | zero =>
   simp only [List.map_cons,setAt,namesC,List.flatMap_cons,List.mem_append,List.mem_flatMap,List.mem_map] at hm
   rcases hm with hm|⟨_,⟨z,_,rfl⟩,hm⟩
   ·exact names_embOC m hm
   ·rw [names_embC] at hm;cases hm
  | succ i =>
   simp only [List.map_cons,setAt,namesC,List.flatMap_cons,List.mem_append] at hm
   rcases hm with hm|hm
   ·rw [names_embC] at hm;cases hm
   ·exact ih m hm
theorem names_embO {d:Nat} {q:OwnR}:∀ m∈(embO d q).names,m=d:=by
 unfold embO
 split
 ·exact names_embOC
 ·split
  ·exact names_setAtC
  ·intro m hm;simp [SV.names,namesC] at hm
theorem st_callO {dm:Bool} (R:Rel C M0 w0 sz ρ E H a w) {c:Call} {f:Nat} {fo:Operand} {args:List DC} {q:OwnR} {h:Nat→Option Blk} (hh:∀ n b,h n=some b→look H n=some b) (ho:o.op=.call c) (hc:c.callee=.value fo) (hf:ev (look E) fo=some (.c (.at (.fn f []))))
  (hl:lendB (c.args.toList.map (ev (look E)))=false) (ha:argsOf h (c.args.toList.map (ev (look E)))=some args) (hrq:FnOwnQ dm P f args q) (hdm:dm=false→C w0.heap.size) {d:Nat} (hd:o.dst=some d) (hlt:d<sz) (hfr:look H d=none):StepOK P C M0 w0 sz E H o (.new d (.row q.k q.l 0) (embO d q)) a w:=by
 have hdn:dm=false:=by
  cases dm with
  | false=>rfl
  | true=>exact hrq.elim
 subst hdn
 have hr:FnOwn P f args q:=hrq
 have hfv:a.eval fo=.func (.func f) #[] ([]:List Value).toArray:=by
  have:=(ev_ok R hf).1.2
  simpa using this
 have hargs:=argsOf_rel R (fun _ _ h=>h) hh (fun h=>by rw [hl] at h;cases h) ha
 intro next Q hn
 unfold Oper.wp
 rw [exec_call ho hc hfv,List.append_nil]
 obtain ⟨g,hg,hr⟩:=hr w _ _ R.mlo hargs
 rw [hg,Oper.upon_enter]
 refine hr.mono ?_
 rintro e w' ⟨v,m,rfl,hb,hown,hver,hpos,hS,hB⟩
 have hreal:(Blk.row q.k q.l 0).real m=true→0<m.cap:=fun h=>by simpa [Blk.real] using h
 have hMM:∀ b,b<w'.heap.size→Mof M0 (upd ρ d m) ((d,.row q.k q.l 0)::H) b→Mof M0 ρ H b∨0<m.cap∧b=m.b:=by
  rintro b _ (h|⟨j,z,hj,hz,e⟩)
  ·exact .inl (.inl h)
  ·by_cases hjd:j=d
   ·subst hjd
    rw [look_cons,if_pos rfl] at hj
    injection hj with hj
    subst hj
    rw [upd_same] at hz e
    exact .inr ⟨hreal hz,e.symm⟩
   ·rw [look_cons,if_neg (fun e=>hjd e.symm)] at hj
    rw [upd_other hjd] at hz e
    exact .inl (.inr ⟨j,z,hj,hz,e⟩)
 have R':=R.fresh (n:=d) (b:=.row q.k q.l 0) (m:=m) hfr (.inl hlt) hb.os hb.tape hb.output hb.size (.inl (hdm rfl)) (fun k hk=>hb.block k hk) (fun h=>hpos (hreal h))
  (fun h1 h2 h3=>by
   obtain ⟨k1,k2⟩:=hB
   refine ⟨k1.mono (.refl _ w') hMM,fun hr => ?_⟩
   obtain ⟨cs,hcs,hC⟩:=k2 hr
   exact ⟨cs,hcs,(hC.mono (.refl _ w') hMM).rename (ρ':=upd ρ d m) (fun n hn=>by simp [Blk.names] at hn)⟩) (by simp [Blk.names])
 refine hn (upd ρ d m) v w' ?_
 rw [hd]
 refine R'.val (dst:=some d) (x:=embO d q) (fun d' h=>by injection h with h;omega) ?_ (fun n hn => ?_)
 ·exact SVR.osl (ρ:=fun _=>m) (by rw [upd_same]) hMM hS
 ·rw [names_embO n hn,look_cons,if_pos rfl];rfl
theorem namesA_d:∀ (l:List D),namesA (l.map .d)=[]
 | []=>rfl
 | x::l=>by simp only [List.map_cons,namesA,List.flatMap_cons,At.names,List.nil_append];exact namesA_d l
theorem st_callF (R:Rel C M0 w0 sz ρ E H a w) {c:Call} {f g:Nat} {fo:Operand} {args:List DC} {cs:List D} {h:Nat→Option Blk} (hh:∀ n b,h n=some b→look H n=some b) (ho:o.op=.call c) (hc:c.callee=.value fo) (hf:ev (look E) fo=some (.c (.at (.fn f []))))
  (hl:lendB (c.args.toList.map (ev (look E)))=false) (ha:argsOf h (c.args.toList.map (ev (look E)))=some args) (hr:FnClo P f args g cs) (hdm:C w0.heap.size) {d:Nat} (hd:o.dst=some d) (hlt:d<sz) (hfr:look H d=none):StepOK P C M0 w0 sz E H o (.new d (.own (cs.map .d)) (.c (.at (.fn g [d])))) a w:=by
 have hfv:a.eval fo=.func (.func f) #[] ([]:List Value).toArray:=by
  have:=(ev_ok R hf).1.2
  simpa using this
 have hargs:=argsOf_rel R (fun _ _ h=>h) hh (fun h=>by rw [hl] at h;cases h) ha
 intro next Q hn
 unfold Oper.wp
 rw [exec_call ho hc hfv,List.append_nil]
 obtain ⟨g',hg,hr⟩:=hr w _ _ R.mlo hargs
 rw [hg,Oper.upon_enter]
 refine hr.mono ?_
 rintro e w' ⟨b,rfl,hb,hlo,hhi,us,hcs,hD⟩
 have hMM:∀ x,x<w'.heap.size→Mof M0 (upd ρ d ⟨true,b,0,0,0⟩) ((d,.own (cs.map .d))::H) x→Mof M0 ρ H x∨x=b:=by
  rintro x _ (h|⟨j,z,hj,hz,e⟩)
  ·exact .inl (.inl h)
  ·by_cases hjd:j=d
   ·subst hjd
    rw [upd_same] at e
    exact .inr e.symm
   ·rw [look_cons,if_neg (fun e=>hjd e.symm)] at hj
    rw [upd_other hjd] at hz e
    exact .inl (.inr ⟨j,z,hj,hz,e⟩)
 have R':=R.fresh (n:=d) (b:=.own (cs.map .d)) (m:=⟨true,b,0,0,0⟩) hfr (.inl hlt) hb.os hb.tape hb.output hb.size (.inl hdm) (fun k hk=>hb.block k hk) (fun _=>⟨hlo,hhi⟩)
  (fun h1 h2 h3=>⟨trivial,fun _=>⟨us,hcs,DsR.ats.1 (hD.mono (.refl _ w') hMM)⟩⟩) (fun k hk=>by
   have hk:k∈namesA (cs.map .d):=hk
   rw [namesA_d] at hk;cases hk)
 refine hn (upd ρ d ⟨true,b,0,0,0⟩) _ w' ?_
 rw [hd]
 refine R'.val (dst:=some d) (x:=.c (.at (.fn g [d]))) (fun d' h=>by injection h with h;omega) ⟨fun n hn => ?_,?_⟩ (fun n hn => ?_)
 ·rw [List.mem_singleton.1 hn,upd_same]
 ·rw [List.map_cons,List.map_nil,upd_same]
 ·have hn:n∈[d]:=hn
  rw [List.mem_singleton.1 hn,look_cons,if_pos rfl];rfl
theorem flat_flatten:∀ {l:List (List D)},(∀ e∈l,flatL e=true)→flatL l.flatten=true:=by
 intro l
 induction l with
 | nil=>intro _;rfl
 | cons e l ih =>
  intro h
  have h1:=h e (List.mem_cons_self ..)
  have h2:=ih fun z hz=>h z (List.mem_cons_of_mem _ hz)
  rw [List.flatten_cons]
  have app:∀ p q:List D,flatL p=true→flatL q=true→flatL (p++q)=true:=by
   intro p
   induction p with
   | nil=>intro q _ h;exact h
   | cons z p ihp =>
    intro q hp hq
    cases z<;>simp [flatL] at hp ⊢
    exact ihp q hp hq
  exact app _ _ h1 h2
theorem st_callM (R:Rel C M0 w0 sz ρ E H a w) {c:Call} {f:Nat} {fo y:Operand} {ys:List Operand} {n v k:Nat} {l l':List (List D)} {args:List DC} {h:Nat→Option Blk} (hh:∀ n b,h n=some b→look H n=some b) (ho:o.op=.call c) (hc:c.callee=.value fo)
  (hf:ev (look E) fo=some (.c (.at (.fn f [])))) (hys:c.args.toList=y::ys) (hy:ev (look E) y=some (.c (.at (.osl n v)))) (hb:look H n=some (.row k l v)) (ha:argsOf h (ys.map (ev (look E)))=some args) (hmu:FnMu P f k l args l') {d:Nat} (hd:o.dst=some d) (hlt:d<sz) :
  StepOK P C M0 w0 sz E H o (.new n (.row k l' v) (.tup [])) a w:=by
 have hfv:a.eval fo=.func (.func f) #[] ([]:List Value).toArray:=by
  have:=(ev_ok R hf).1.2
  simpa using this
 obtain ⟨x,e1,e2,e3,e4,e5,e6,e7⟩:=osl_val R hy hb
 have hB:=R.blk n _ hb
 have hreal:∀ l,(Blk.row k l v).real (ρ n)=true→0<(ρ n).cap:=fun l h=>by simpa [Blk.real] using h
 have hreal':∀ l,0<(ρ n).cap→(Blk.row k l v).real (ρ n)=true:=fun l h=>by simpa [Blk.real] using h
 have hsub:∀ b,b<w.heap.size→(0<(ρ n).cap∧b=(ρ n).b)→Mof M0 ρ H b:=fun b _ h=>.inr ⟨n,_,hb,hreal' _ h.1,h.2.symm⟩
 have hargs:=argsOf_rel R (M':=fun b=>0<(ρ n).cap∧b=(ρ n).b) hsub hh (fun _ m cs hm he=>by
  have:m=n:=R.inj m n _ _ hm hb rfl (hreal' _ he.1) he.2
  subst this
  rw [hb] at hm;cases hm) ha
 intro next Q hn
 unfold Oper.wp
 rw [exec_call ho hc hfv,List.append_nil,hys,List.map_cons,e1]
 obtain ⟨g,hg,hcall⟩:=hmu.2 w (fun b=>0<(ρ n).cap∧b=(ρ n).b) (.slice x l.length (ρ n).cap) _ (ρ n) ⟨fun b h=>by rw [h.2];exact R.hi n _ hb (hreal' _ h.1),R.gdw,fun b h=>by rw [h.2];exact (R.lo n _ hb (hreal' _ h.1)).elim (Nat.le_trans (gd_size R.out.gd)) (fun h=>R.out.gc _ h.1)⟩ (fun h=>⟨h,rfl⟩) hargs
  (by
   obtain ⟨k1,k2⟩:=hB
   rw [e7]
   refine ⟨k1.mono (.refl _ w) hsub,fun hr => ?_⟩
   obtain ⟨cs,hcs,hC⟩:=k2 hr
   exact ⟨cs,hcs,(hC.mono (.refl _ w) hsub).rename (ρ':=fun _=>ρ n) (fun n hn=>by simp [Blk.names] at hn)⟩) ⟨x,by rw [e3],e2⟩
 rw [hg,Oper.upon_enter]
 refine hcall.mono ?_
 rintro e w' ⟨rfl,hBel,hB'⟩
 refine hn (upd ρ n (ρ n)) (.tuple #[]) w' ?_
 have R':=R.known (n:=n) (b0:=.row k l v) (b:=.row k l' v) (m:=ρ n) (w':=w') hb (.inl rfl) hBel.os hBel.tape hBel.output hBel.size (hBel.drawn.elim (fun h=>absurd (R.hi n _ hb (hreal' _ h.1)) (by rw [← h.2];omega)) .inr)
  (fun k hk h=>hBel.block k hk fun ⟨h1,h2⟩=>h (hreal' _ h1) h2) (fun hr=>.inl ⟨hreal' _ (hreal _ hr),rfl⟩)
  (fun h1 h2=>by
   obtain ⟨k1,k2⟩:=hB'
   rw [e7] at k1 k2
   refine ⟨k1,fun hr => ?_⟩
   obtain ⟨cs,hcs,c1,c2,c3,vs,rest,c4,c5⟩:=k2 hr
   exact ⟨cs,hcs,c1,c2,c3,vs,rest,c4,flatL_rel (by
    have key:∀ l:List (List D),(∀ e∈l,flatL e=true)→flatL l.flatten=true:=by
     intro l
     induction l with
     | nil=>intro _;rfl
     | cons e l ih =>
      intro h
      have h1:=h e (List.mem_cons_self ..)
      have h2:=ih fun z hz=>h z (List.mem_cons_of_mem _ hz)
      rw [List.flatten_cons]
      have app:∀ p q:List D,flatL p=true→flatL q=true→flatL (p++q)=true:=by
       intro p
       induction p with
       | nil=>intro q _ h;exact h
       | cons z p ihp =>
        intro q hp hq
        cases z<;>simp [flatL] at hp ⊢
        exact ihp q hp hq
      exact app _ _ h1 h2
    exact key l' hmu.1) c5⟩) (by simp [Blk.names])
 rw [hd]
 exact R'.val (dst:=some d) (x:=.tup []) (fun d' h=>by injection h with h;omega) ⟨[],rfl,trivial⟩ (fun m hm=>by simp [SV.names,namesC] at hm)
theorem capsD_get {h:Nat→Option Blk}:∀ {caps:List Nat} {cs:List (List D)},capsD h caps=some cs→∀ (i n:Nat) (ds:List D),caps[i]? = some n→cs[i]? = some ds→∃ cells,h n=some (.own cells)∧atsD? cells=some ds
 | [],cs,hc,i,n,ds,h1,h2=>by simp at h1
 | m::r,cs,hc,i,n,ds,h1,h2=>by
  simp only [capsD] at hc
  split at hc
  ·rename_i cells hm
   split at hc
   ·rename_i ds0 rs hds hrs
    injection hc with hc
    subst hc
    cases i with
    | zero =>
     simp at h1 h2
     subst h1 h2
     exact ⟨cells,hm,hds⟩
    | succ i=>exact capsD_get hrs i n ds (by simpa using h1) (by simpa using h2)
   ·cases hc
  ·cases hc
theorem nodB_iff:∀ {l:List Nat},nodB l=true→l.Nodup
 | [],_=>List.nodup_nil
 | n::l,h=>by
  simp only [nodB] at h
  split at h
  ·cases h
  ·rename_i hc
   exact List.nodup_cons.2 ⟨fun hm=>absurd (List.contains_iff_mem.2 hm) (by rw [hc];exact Bool.false_ne_true),nodB_iff h⟩
theorem look_zipB:∀ {l:List Nat} {cs:List (List D)} {n:Nat} {x:Blk},look (zipB l cs) n=some x→∃ (i:Nat) (ds:List D),l[i]? = some n∧cs[i]? = some ds∧x=.own (ds.map .d)
 | [],cs,n,x,h=>by cases cs<;>simp [zipB,look] at h
 | m::l,[],n,x,h=>by simp [zipB,look] at h
 | m::l,c::cs,n,x,h=>by
  simp only [zipB,look_cons] at h
  split at h
  ·rename_i e
   injection h with h
   subst e h
   exact ⟨0,c,rfl,rfl,rfl⟩
  ·obtain ⟨i,ds,h1,h2,h3⟩:=look_zipB h
   exact ⟨i+1,ds,by simpa using h1,by simpa using h2,h3⟩
theorem zipB_some:∀ {l:List Nat} {cs:List (List D)} {n:Nat},l.length=cs.length→n∈l→(look (zipB l cs) n).isSome=true
 | [],cs,n,_,h=>by cases h
 | m::l,[],n,h,_=>by simp at h
 | m::l,c::cs,n,h,hn=>by
  simp only [zipB,look_cons]
  split
  ·rfl
  ·rename_i hne
   rcases List.mem_cons.1 hn with rfl|hn
   ·exact absurd rfl hne
   ·exact zipB_some (by simpa using h) hn
theorem st_callMem (R:Rel C M0 w0 sz ρ E H a w) {c:Call} {f:Nat} {fo:Operand} {caps:List Nat} {cs cs':List (List D)} {args:List DC} {r:DV} {h:Nat→Option Blk} (hh:∀ n b,h n=some b→look H n=some b) (ho:o.op=.call c) (hc:c.callee=.value fo)
  (hf:ev (look E) fo=some (.c (.at (.fn f caps)))) (hl:lendB (c.args.toList.map (ev (look E)))=false) (ha:argsOf h (c.args.toList.map (ev (look E)))=some args) (hcs:capsD h caps=some cs) (hnd:nodB caps=true) (hmem:FnMem P f args cs r cs') (hdm:C w0.heap.size) {d:Nat} (hd:o.dst=some d) (hlt:d<sz) :
  StepOK P C M0 w0 sz E H o (.many (zipB caps cs') (embV r)) a w:=by
 have hfv:a.eval fo=.func (.func f) #[] (caps.map fun n=>Value.pointer (some ⟨(ρ n).b,0,none⟩)).toArray:=(ev_ok R hf).1.2
 have hargs:=argsOf_rel R (fun _ _ h=>h) hh (fun h=>by rw [hl] at h;cases h) ha
 have hlen:=caps_len hcs
 have hcap:∀ n∈caps,∃ cells,look H n=some (.own cells):=fun n hn=>by
  obtain ⟨i,hi,rfl⟩:=List.getElem_of_mem hn
  obtain ⟨cells,h1,_⟩:=capsD_get hcs i caps[i] (cs[i]'(by omega)) (List.getElem?_eq_getElem hi) (List.getElem?_eq_getElem (by omega))
  exact ⟨cells,hh _ _ h1⟩
 intro next Q hn
 unfold Oper.wp
 rw [exec_call ho hc hfv]
 have emap:(caps.map fun n=>Value.pointer (some ⟨(ρ n).b,0,none⟩))=(caps.map fun n=>(ρ n).b).map fun b=>Value.pointer (some ⟨b,0,none⟩):=by simp
 rw [emap]
 obtain ⟨g,hg,hcall⟩:=hmem.2 w (Mof M0 ρ H) _ (caps.map fun n=>(ρ n).b) R.mlo (by simpa using hlen.symm)
  (by
   have hnd:=nodB_iff hnd
   refine List.pairwise_map.2 (List.Pairwise.imp_of_mem (fun {x y} hx hy hne e => ?_) hnd)
   obtain ⟨c1,h1⟩:=hcap x hx
   obtain ⟨c2,h2⟩:=hcap y hy
   exact hne (R.inj x y _ _ h1 h2 rfl rfl e))
  (fun b hb=>by
   obtain ⟨n,hn,rfl⟩:=List.mem_map.1 hb
   obtain ⟨c1,h1⟩:=hcap n hn
   exact .inr ⟨n,_,h1,rfl,rfl⟩) hargs
  (fun i b ds hb hds=>by
   rw [List.getElem?_map] at hb
   cases hn:caps[i]? with
   | none=>rw [hn] at hb;cases hb
   | some n =>
    rw [hn] at hb
    injection hb with hb
    subst hb
    obtain ⟨cells,h1,h2⟩:=capsD_get hcs i n ds hn hds
    obtain ⟨us,h3,h4⟩:=(R.blk n _ (hh _ _ h1)).2 rfl
    exact ⟨us,h3,atsD_rel' h2 h4⟩)
 rw [hg,Oper.upon_enter]
 refine hcall.mono ?_
 rintro e w' ⟨v,rfl,hv,hB,hcells⟩
 refine hn ρ v w' ?_
 obtain ⟨R',hMM⟩:=R.puts (B:=zipB caps cs') (w':=w') hcap (fun n x hx=>by
   obtain ⟨i,ds,h1,h2,rfl⟩:=look_zipB hx
   exact ⟨List.mem_of_getElem? h1,ds,rfl,hcells i _ ds (by rw [List.getElem?_map,h1];rfl) h2⟩) (fun n hn=>zipB_some (by rw [hmem.1];exact hlen.symm) hn) hB.os hB.tape hB.output hB.size (.inl hdm)
  (fun k hk hne=>hB.block k hk fun h=>by
   rcases h with h|h
   ·obtain ⟨n,hn,e⟩:=List.mem_map.1 h
    exact hne n hn e.symm
   ·omega)
 rw [hd]
 exact R'.val (dst:=some d) (x:=embV r) (fun d' h=>by injection h with h;omega) (SVR.mono (.refl _ _) (fun k _ h=>hMM k h) (DVR.emb hv)) embV_names
theorem st_callK (R:Rel C M0 w0 sz ρ E H a w) {c:Call} {f:Nat} {fo y:Operand} {ys:List Operand} {n v k:Nat} {l l':List (List D)} {args:List DC} {h:Nat→Option Blk} (hh:∀ n b,h n=some b→look H n=some b) (ho:o.op=.call c) (hc:c.callee=.value fo)
  (hf:ev (look E) fo=some (.c (.at (.fn f [])))) (hys:c.args.toList=y::ys) (hy:ev (look E) y=some (.c (.at (.osl n v)))) (hb:look H n=some (.row k l v)) (ha:argsOf h (ys.map (ev (look E)))=some args) (hmu:FnCon P f k l args l') {d:Nat} (hd:o.dst=some d) (hlt:d<sz) :
  StepOK P C M0 w0 sz E H o (.new n (.row k l' (v+1)) (.c (.at (.osl n (v+1))))) a w:=by
 have hfv:a.eval fo=.func (.func f) #[] ([]:List Value).toArray:=by
  have:=(ev_ok R hf).1.2
  simpa using this
 obtain ⟨x,e1,e2,e3,e4,e5,e6,e7⟩:=osl_val R hy hb
 have hB:=R.blk n _ hb
 have hreal':∀ l,0<(ρ n).cap→(Blk.row k l v).real (ρ n)=true:=fun l h=>by simpa [Blk.real] using h
 have hsub:∀ b,b<w.heap.size→(0<(ρ n).cap∧b=(ρ n).b)→Mof M0 ρ H b:=fun b _ h=>.inr ⟨n,_,hb,hreal' _ h.1,h.2.symm⟩
 have hargs:=argsOf_rel R (M':=fun b=>0<(ρ n).cap∧b=(ρ n).b) hsub hh (fun _ m cs hm he=>by
  have:m=n:=R.inj m n _ _ hm hb rfl (hreal' _ he.1) he.2
  subst this
  rw [hb] at hm;cases hm) ha
 intro next Q hn
 unfold Oper.wp
 rw [exec_call ho hc hfv,List.append_nil,hys,List.map_cons,e1]
 obtain ⟨g,hg,hcall⟩:=hmu.2 w (fun b=>0<(ρ n).cap∧b=(ρ n).b) (.slice x l.length (ρ n).cap) _ (ρ n) ⟨fun b h=>by rw [h.2];exact R.hi n _ hb (hreal' _ h.1),R.gdw,fun b h=>by rw [h.2];exact (R.lo n _ hb (hreal' _ h.1)).elim (Nat.le_trans (gd_size R.out.gd)) (fun h=>R.out.gc _ h.1)⟩ (fun h=>⟨h,rfl⟩) hargs
  (by
   obtain ⟨k1,k2⟩:=hB
   rw [e7]
   refine ⟨k1.mono (.refl _ w) hsub,fun hr => ?_⟩
   obtain ⟨cs,hcs,hC⟩:=k2 hr
   exact ⟨cs,hcs,(hC.mono (.refl _ w) hsub).rename (ρ':=fun _=>ρ n) (fun n hn=>by simp [Blk.names] at hn)⟩) ⟨x,by rw [e3],e2⟩
 rw [hg,Oper.upon_enter]
 refine hcall.mono ?_
 rintro e w' ⟨u,m',rfl,hown,hBel,hnew,hB',hu⟩
 refine hn (upd ρ n { m' with ver:=v+1 }) u w' ?_
 have R':=R.known (n:=n) (b0:=.row k l v) (b:=.row k l' (v+1)) (m:={ m' with ver:=v+1 }) (w':=w') hb (.inr ⟨e6,hown,by show (ρ n).ver<v+1;omega⟩) hBel.os hBel.tape hBel.output hBel.size (hBel.drawn.elim (fun h=>absurd (R.hi n _ hb (hreal' _ h.1)) (by rw [← h.2];omega)) .inr)
  (fun k hk h=>hBel.block k hk fun ⟨h1,h2⟩=>h (hreal' _ h1) h2) (fun hr=>by
   rcases hnew (by simpa [Blk.real] using hr) with ⟨h1,h2⟩|h
   ·exact .inl ⟨hreal' _ h1,h2⟩
   ·exact .inr h)
  (fun h1 h2=>by
   obtain ⟨⟨k1,k2,k3,k4,k5⟩,k6⟩:=hB'
   refine ⟨⟨k1,k2,k3,rfl,k5⟩,fun hr => ?_⟩
   obtain ⟨cs,hcs,c1,c2,c3,vs,rest,c4,c5⟩:=k6 (by simpa [Blk.real] using hr)
   exact ⟨cs,hcs,c1,c2,c3,vs,rest,c4,flatL_rel (flat_flatten hmu.1) c5⟩) (by simp [Blk.names])
 rw [hd]
 refine R'.val (dst:=some d) (x:=.c (.at (.osl n (v+1)))) (fun d' h=>by injection h with h;omega) ?_ (fun m hm => ?_)
 ·refine ⟨by rw [upd_same];exact hown,by obtain ⟨z,rfl,_⟩:=hu;rfl,by rw [upd_same];exact Nat.le_refl _,fun _=>by rw [upd_same];exact hu⟩
 ·have:m=n:=by simpa [SV.names,SC.names,At.names] using hm
  rw [this,look_cons,if_pos rfl];rfl
end
end Sx
end Go.Proofs.YtddbmpbihpkabaaGreat
