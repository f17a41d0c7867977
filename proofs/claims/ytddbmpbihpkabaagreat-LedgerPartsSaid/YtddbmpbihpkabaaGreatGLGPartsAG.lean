import Derived.Test.YtddbmpbihpkabaaGreatGLGPartsAF
import Derived.Laws.Cover3
set_option linter.all false
namespace Go.Proofs.YtddbmpbihpkabaaGreat
open Go Go.RowKit
namespace Sx
section
variable {P:Program} {C M0:Nat→Prop} {w0 w:World} {sz:Nat} {ρ:Nat→Nm} {E:Env} {H:Hp} {a:Act} {o:Oper} {x:Eff} {Γ:Cfg}
theorem nilS_val (R:Rel C M0 w0 sz ρ E H a w) {y:Operand} {s:SV} (hs:ev (look E) y=some s) (hn:nilS s=true):a.eval y=.slice none 0 0:=by
 have h1:=(ev_ok R hs).1
 unfold nilS at hn
 split at hn
 ·have h1:Rep w (Mof M0 ρ H) (.nil _) (a.eval y):=h1
  generalize a.eval y=u at h1
  cases h1;rfl
 ·have h1:Rep w (Mof M0 ρ H) (.v (.slice none 0 0)) (a.eval y):=h1
  generalize a.eval y=u at h1
  cases h1;rfl
 ·cases hn
theorem st_empty (R:Rel C M0 w0 sz ρ E H a w) {v:Value} {k:Nat} (hr:(execOp a.eval o).run P w=.ok (.value v) w) (hv:∃ z,v=.slice z 0 0) {d:Nat} (hd:o.dst=some d) (hlt:d<sz) (hf:look H d=none):StepOK P C M0 w0 sz E H o (.new d (.row k [] 0) (.c (.at (.osl d 0)))) a w:=by
 obtain ⟨z,rfl⟩:=hv
 refine ok_run (ρ':=upd ρ d ⟨false,0,0,0,0⟩) hr ?_
 have R':=R.fresh (b:=.row k [] 0) (m:=⟨false,0,0,0,0⟩) hf (.inl hlt) rfl rfl rfl (Nat.le_refl _) (.inr (Nat.le_refl _)) (fun _ _=>rfl) (fun h=>by simp [Blk.real] at h)
  (fun _ _ _=>⟨⟨by simp,rfl,fun _=>rfl,rfl,rfl⟩,fun h=>by simp [Blk.real] at h⟩) (by simp [Blk.names])
 rw [hd]
 refine R'.val (dst:=some d) (x:=.c (.at (.osl d 0))) (fun d' h=>by injection h with h;omega) ?_ (fun m hm => ?_)
 ·exact ⟨by rw [upd_same],rfl,by rw [upd_same];exact Nat.le_refl _,fun _=>⟨z,by rw [upd_same],fun h=>by rw [upd_same] at h;exact absurd h (Nat.lt_irrefl _)⟩⟩
 ·have:m=d:=by simpa [SV.names,SC.names,At.names] using hm
  rw [this,look_cons,if_pos rfl];rfl
theorem st_mv (R:Rel C M0 w0 sz ρ E H a w) {y:Operand} {s:SV} {fresh:Bool} (hfr:∀ d,o.dst=some d→fresh=true→look H d=none) (ho:o.op=.move y∨o.op=.assign y) (he:ev (look E) y=some s) (h:(stepV.mvV Γ sz o fresh s).has x):StepOK P C M0 w0 sz E H o x a w:=by
 unfold stepV.mvV at h
 split at h
 ·rename_i hn
  have hv:=nilS_val R he hn
  have hr:(execOp a.eval o).run P w=.ok (.value (a.eval y)) w:=by rcases ho with ho|ho<;>simp [execOp,ho]
  split at h
  ·split at h
   ·split at h
    ·rename_i d hd
     obtain ⟨d',hd',hlt,h⟩:=guardD_has h
     have:d'=d:=by rw [hd'] at hd;injection hd
     subst this
     have h:Eff.new _ _ _=x:=h
     subst h
     exact st_empty R hr ⟨none,hv⟩ hd' hlt (hfr _ hd' rfl)
    ·exact h.elim
   ·obtain ⟨d,hd,hlt,rfl⟩:=retD_has h
    refine ok_val R hr hd hlt ?_ (fun n hn=>by simp [sD,SV.names,SC.names,At.names] at hn)
    rw [hv]
    exact Rep.nl _
  ·exact h.elim
 ·exact st_move R ho he h
theorem ptrs_ok (R:Rel C M0 w0 sz ρ E H a w):∀ {ys:List Operand} {l:List Nat},stepV.ptrsOf (ys.map (ev (look E)))=some l→ys.map a.eval=l.map (fun n=>Value.pointer (some ⟨(ρ n).b,0,none⟩))∧(∀ n∈l,(ρ n).own=true)∧∀ n∈l,(look H n).isSome=true
 | [],l,h=>by simp [stepV.ptrsOf] at h;subst h;exact ⟨rfl,by simp,by simp⟩
 | y::ys,l,h=>by
  simp only [List.map_cons] at h
  unfold stepV.ptrsOf at h
  split at h
  ·rename_i heq;cases heq
  ·rename_i n r heq
   injection heq with e1 e2
   subst e2
   split at h
   ·rename_i l' hl'
    injection h with h
    subst h
    obtain ⟨h1,h2,h3⟩:=ptrs_ok R hl'
    obtain ⟨k1,k2⟩:=ev_ok R e1
    obtain ⟨k1,k3⟩:=k1
    exact ⟨by simp [k3,h1],fun m hm=>by rcases List.mem_cons.1 hm with rfl|hm;exact k1;exact h2 m hm,
     fun m hm=>by rcases List.mem_cons.1 hm with rfl|hm;exact k2 _ (by simp [SV.names,SC.names,At.names]);exact h3 m hm⟩
   ·cases h
  ·cases h
theorem st_makeFunc (R:Rel C M0 w0 sz ρ E H a w) {f:Nat} {first capt:Array Operand} {l:List Nat} (ho:o.op=.makeFunc (.func f) first capt) (h0:first.size=0) (hl:stepV.ptrsOf (capt.toList.map (ev (look E)))=some l) (h:(retD sz o.dst (.c (.at (.fn f l)))).has x):StepOK P C M0 w0 sz E H o x a w:=by
 obtain ⟨d,hd,hlt,rfl⟩:=retD_has h
 obtain ⟨h1,h2,h3⟩:=ptrs_ok R hl
 have hf:first=#[]:=Array.eq_empty_of_size_eq_zero h0
 subst hf
 refine ok_val R (v:=.func (.func f) #[] (capt.map a.eval)) ?_ hd hlt ⟨h2,?_⟩ (fun n hn=>h3 n (by simpa [SV.names,SC.names,At.names] using hn))
 ·simp [execOp,ho,Instr.makeFunc]
 ·congr 1
  apply Array.ext'
  simpa using h1
def BndO:Option Value→Int→Nat→Prop
 | none,i,d=>i=d
 | some v,i,_=>∃ k,v=.int k i
theorem run_slice {t e k:Nat} (he:P.underlying t=some (.slice e)) (hsz:∀ w,(sizeOf e).run P w=.ok k w) {ad:Option Addr} {len cap:Nat} {lo hi mx:Option Value} {p q m:Nat} (h1:BndO lo p 0) (h2:BndO hi q len) (h3:BndO mx m cap) (hn:hi=none→mx=none) (hpq:p≤q) (hqm:q≤m) (hmc:m≤cap) :
  (Instr.sliceAt t (.slice ad len cap) lo hi mx).run P w=.ok (.slice (if m=p then ad else ad.map (·.add (p*k))) (q-p) (m-p)) w:=by
 have hu:=run_underlying_of he w
 cases lo with
 | none =>
  have h1:(p:Int)=(0:Nat):=h1
  have:p=0:=by omega
  subst this
  cases hi with
  | none =>
   have:=hn rfl
   subst this
   have h2:(q:Int)=(len:Nat):=h2
   have h3:(m:Int)=(cap:Nat):=h3
   have e2:q=len:=by omega
   have e3:m=cap:=by omega
   subst e2 e3
   simp [Instr.sliceAt,Instr.slice,hu,Instr.sliceBounds,hsz]
  | some hv =>
   obtain ⟨kh,rfl⟩:=h2
   cases mx with
   | none =>
    have h3:(m:Int)=(cap:Nat):=h3
    have e3:m=cap:=by omega
    subst e3
    have:0≤(q:Int)∧(q:Int)≤(m:Int):=by omega
    simp [Instr.sliceAt,Instr.slice,hu,Instr.sliceBounds,hsz,Instr.sliceBound,asIntOf,hqm]
   | some mv =>
    obtain ⟨km,rfl⟩:=h3
    simp [Instr.sliceAt,Instr.slice,hu,Instr.sliceBounds,hsz,Instr.sliceBound,asIntOf,hqm,hmc]
 | some lv =>
  obtain ⟨kl,rfl⟩:=h1
  cases hi with
  | none =>
   have:=hn rfl
   subst this
   have h2:(q:Int)=(len:Nat):=h2
   have h3:(m:Int)=(cap:Nat):=h3
   have e2:q=len:=by omega
   have e3:m=cap:=by omega
   subst e2 e3
   simp [Instr.sliceAt,Instr.slice,hu,Instr.sliceBounds,hsz,Instr.sliceBound,asIntOf,hpq]
  | some hv =>
   obtain ⟨kh,rfl⟩:=h2
   cases mx with
   | none =>
    have h3:(m:Int)=(cap:Nat):=h3
    have e3:m=cap:=by omega
    subst e3
    simp [Instr.sliceAt,Instr.slice,hu,Instr.sliceBounds,hsz,Instr.sliceBound,asIntOf,hqm,hpq]
   | some mv =>
    obtain ⟨km,rfl⟩:=h3
    simp [Instr.sliceAt,Instr.slice,hu,Instr.sliceBounds,hsz,Instr.sliceBound,asIntOf,hqm,hmc,hpq]
theorem rep_sub {M:Nat→Prop} {k:Nat} {l:List (List D)} {ad:Option Addr} {cap:Nat} (h:Rep w M (.list k l) (.slice ad l.length cap)) {p q m:Nat} (hpq:p≤q) (hq:q≤l.length) (hqm:q≤m) (hm:m≤cap) :
  Rep w M (.list k ((l.take q).drop p)) (.slice (if m=p then ad else ad.map (·.add (p*k))) (q-p) (m-p)):=by
 generalize hu:Value.slice ad l.length cap=u at h
 cases h with
 | nil k x c hc hx =>
  injection hu with e1 e2 e3
  subst e1 e3
  have hq0:q=0:=by simpa using hq
  have hp0:p=0:=by omega
  subst hq0 hp0
  refine .nil k _ _ (by omega) (fun h => ?_)
  have:ad=none:=by
   split at h
   ·exact h
   ·cases ad<;>first|rfl|cases h
  have:=hx this
  omega
 | @list b off cap' k l vs hc hmx hMb hb hk hv hr =>
  injection hu with e1 e2 e3
  subst e1 e3
  have hlen:((l.take q).drop p).length=q-p:=by simp;omega
  split
  ·rename_i hmp
   have:q=p:=by omega
   subst this
   have:(l.take q).drop q=[]:=by simp
   rw [this]
   have e:q-q=0:=by omega
   rw [e]
   exact .nil k _ _ (by omega) (fun h=>by cases h)
  ·have e:(some (⟨b,off,none⟩:Addr)).map (·.add (p*k))=some ⟨b,off+p*k,none⟩:=by simp [add_plain]
   rw [e,← hlen]
   have hget:∀ i (hi:i<((l.take q).drop p).length),((l.take q).drop p)[i]=l[p+i]'(by rw [hlen] at hi;omega):=fun i hi=>by simp
   refine .list (fun i j=>vs (p+i) j) (by rw [hlen];omega) (by omega) hMb hb (fun x hx=>hk x (List.mem_of_mem_take (List.mem_of_mem_drop hx))) (fun i j hi hj => ?_) (fun i j hi hj => ?_)
   ·rw [hlen] at hi
    rw [← hv (p+i) j (by omega) hj]
    congr 2
    rw [Nat.add_mul];omega
   ·have hi':p+i<l.length:=by rw [hlen] at hi;omega
    have hj':j<(l[p+i]).length:=by rw [← hget i hi];exact hj
    have:=hr (p+i) j hi' hj'
    have e2:((l.take q).drop p)[i][j]=l[p+i][j]:=by simp
    rw [e2];exact this
theorem bndI_ok (R:Rel C M0 w0 sz ρ E H a w) {y:Operand} {i:Int} (h:bndI (ev (look E) y)=some i):∃ k,a.eval y=.int k i:=by
 unfold bndI at h
 split at h
 ·rename_i k n hs
  injection h with h
  subst h
  exact ⟨k,rep_int' (show Rep w (Mof M0 ρ H) (.v (.int k n)) (a.eval y) from (ev_ok R hs).1)⟩
 ·cases h
theorem sliB_ok (R:Rel C M0 w0 sz ρ E H a w) {lo hi mx:Option Operand} {len:Nat} {p q m:Int} (h:stepV.sliB lo hi mx ((lo.toArray++hi.toArray++mx.toArray).toList.map (ev (look E))) len=some (p,q,m)) :
  BndO (lo.map a.eval) p 0∧BndO (hi.map a.eval) q len∧(mx=none→m=len)∧(∀ y,mx=some y→∃ k,a.eval y=.int k m)∧(hi=none→mx=none):=by
 cases lo<;>cases hi<;>cases mx<;>simp only [Option.toArray,List.append_toArray,List.map_cons,List.map_nil,List.nil_append,List.cons_append,stepV.sliB] at h
 all_goals (repeat' split at h)
 all_goals try (cases h;done)
 all_goals
  injection h with h
  injection h with h1 h
  injection h with h2 h3
  subst h1 h2 h3
 ·exact ⟨rfl,rfl,fun _=>rfl,(fun y hy=>by cases hy),fun _=>rfl⟩
 ·exact ⟨rfl,bndI_ok R (by assumption),fun _=>rfl,(fun y hy=>by cases hy),(fun h=>by cases h)⟩
 ·exact ⟨rfl,bndI_ok R (by assumption),(fun h=>by cases h),(fun y hy=>by injection hy with hy;subst hy;exact bndI_ok R (by assumption)),(fun h=>by cases h)⟩
 ·exact ⟨bndI_ok R (by assumption),rfl,fun _=>rfl,(fun y hy=>by cases hy),fun _=>rfl⟩
 ·exact ⟨bndI_ok R (by assumption),bndI_ok R (by assumption),fun _=>rfl,(fun y hy=>by cases hy),(fun h=>by cases h)⟩
 ·exact ⟨bndI_ok R (by assumption),bndI_ok R (by assumption),(fun h=>by cases h),(fun y hy=>by injection hy with hy;subst hy;exact bndI_ok R (by assumption)),(fun h=>by cases h)⟩
theorem st_slice (R:Rel C M0 w0 sz ρ E H a w) {t k:Nat} {ea:Bool} {zl:List D} {l:List (List D)} {y:Operand} {lo hi mx:Option Operand} {p q m:Int} (ht:TyOK P t (.sl k ea zl)) (ho:o.op=.slice t y lo hi mx) (he:ev (look E) y=some (.c (.at (.d (.list k l)))))
  (hsl:stepV.sliB lo hi mx ((lo.toArray++hi.toArray++mx.toArray).toList.map (ev (look E))) l.length=some (p,q,m)) (hb:0≤p∧p≤q∧q≤m∧m≤l.length) {d:Nat} (hd:o.dst=some d) (hlt:d<sz) :
  StepOK P C M0 w0 sz E H o (.val (sD (.list k ((l.take q.toNat).drop p.toNat)))) a w:=by
 obtain ⟨e,he2,hsz,_⟩:=ht.2.2.2
 have hrep:Rep w (Mof M0 ρ H) (.list k l) (a.eval y):=(ev_ok R he).1
 obtain ⟨b1,b2,b3,b4,b5⟩:=sliB_ok R hsl
 have hform:∃ ad cap,a.eval y=.slice ad l.length cap∧l.length≤cap:=by
  generalize a.eval y=u at hrep
  cases hrep with
  | nil k x c hm hx=>exact ⟨x,c,rfl,Nat.zero_le _⟩
  | list vs hc=>exact ⟨_,_,rfl,hc⟩
 obtain ⟨ad,cap,hv,hcap⟩:=hform
 rw [hv] at hrep
 obtain ⟨M,hM1,hM2,hM3⟩:∃ M:Nat,BndO (mx.map a.eval) M cap∧q.toNat≤M∧M≤cap:=by
  cases mx with
  | none=>exact ⟨cap,rfl,by have:=b3 rfl;omega,Nat.le_refl _⟩
  | some z =>
   obtain ⟨kz,hz⟩:=b4 z rfl
   exact ⟨m.toNat,⟨kz,by rw [hz];congr 1;omega⟩,by omega,by omega⟩
 have hp:((p.toNat:Nat):Int)=p:=by omega
 have hq:((q.toNat:Nat):Int)=q:=by omega
 have hr:=run_slice (P:=P) (w:=w) he2 hsz (ad:=ad) (len:=l.length) (cap:=cap) (lo:=lo.map a.eval) (hi:=hi.map a.eval) (mx:=mx.map a.eval) (p:=p.toNat) (q:=q.toNat) (m:=M) (by rw [hp];exact b1) (by rw [hq];exact b2) hM1
  (by cases hi with|none=>intro _;rw [b5 rfl];rfl|some _=>intro h;cases h) (by omega) hM2 hM3
 refine ok_val R (v:=.slice (if M=p.toNat then ad else ad.map (·.add (p.toNat*k))) (q.toNat-p.toNat) (M-p.toNat)) ?_ hd hlt (rep_sub hrep (by omega) (by omega) hM2 hM3) (fun n hn=>by simp [sD,SV.names,SC.names,At.names] at hn)
 simp only [execOp,ho,Sem.run_bind,hv,hr,Result.andThen_ok,Sem.run_pure]
theorem st_sliceOwn (R:Rel C M0 w0 sz ρ E H a w) {t k:Nat} {ea:Bool} {zl:List D} {l:List (List D)} {y:Operand} {lo hi:Option Operand} {kz:IntKind} {p q m:Int} (ht:TyOK P t (.sl k ea zl)) (ho:o.op=.slice t y lo hi (some (.const (.int kz (.ofNat 0))))) (he:ev (look E) y=some (.c (.at (.d (.list k l)))))
  (hsl:stepV.sliB lo hi (some (.const (.int kz (.ofNat 0)))) ((lo.toArray++hi.toArray++(some (Operand.const (.int kz (.ofNat 0)))).toArray).toList.map (ev (look E))) l.length=some (p,q,m)) (hb:p=0∧q=0) {d:Nat} (hd:o.dst=some d) (hlt:d<sz) (hf:look H d=none) :
  StepOK P C M0 w0 sz E H o (.new d (.row k [] 0) (.c (.at (.osl d 0)))) a w:=by
 obtain ⟨e,he2,hsz,_⟩:=ht.2.2.2
 have hrep:Rep w (Mof M0 ρ H) (.list k l) (a.eval y):=(ev_ok R he).1
 obtain ⟨b1,b2,b3,b4,b5⟩:=sliB_ok R hsl
 have hform:∃ ad cap,a.eval y=.slice ad l.length cap:=by
  generalize a.eval y=u at hrep
  cases hrep with
  | nil k x c hm hx=>exact ⟨x,c,rfl⟩
  | list vs hc=>exact ⟨_,_,rfl⟩
 obtain ⟨ad,cap,hv⟩:=hform
 obtain ⟨rfl,rfl⟩:=hb
 have hr:=run_slice (P:=P) (w:=w) he2 hsz (ad:=ad) (len:=l.length) (cap:=cap) (lo:=lo.map a.eval) (hi:=hi.map a.eval) (mx:=some (.int kz 0)) (p:=0) (q:=0) (m:=0) b1 b2 ⟨kz,rfl⟩
  (by cases hi with|none=>have:=b5 rfl;cases this|some _=>intro h;cases h) (Nat.le_refl _) (Nat.le_refl _) (Nat.zero_le _)
 refine st_empty R (v:=.slice ad 0 0) ?_ ⟨ad,rfl⟩ hd hlt hf
 simp only [execOp,ho,Sem.run_bind,hv,Option.map_some]
 have e0:a.eval (Operand.const (.int kz (.ofNat 0)))=.int kz 0:=rfl
 rw [e0,hr]
 simp
theorem st_buildEmpty (R:Rel C M0 w0 sz ρ E H a w) {t ek:Nat} {ea:Bool} {zl:List D} (ht:TyOK P t (.sl ek ea zl)) (ho:o.op=.buildSlice t 0 #[]) {d:Nat} (hd:o.dst=some d) (hlt:d<sz) (hf:look H d=none):StepOK P C M0 w0 sz E H o (.new d (.row ek [] 0) (.c (.at (.osl d 0)))) a w:=by
 obtain ⟨e,he,hsz,_,⟨z,hz,hzs⟩,_⟩:=ht.2.2.2
 have hbl:Below w.heap.size w (w.alloc (.cells #[] e)):=(Below.refl _ _).alloc (Nat.le_refl _) _
 have hrun:(execOp a.eval o).run P w=.ok (.value (.slice (some ⟨w.heap.size,0,none⟩) 0 0)) (w.alloc (.cells #[] e)):=by
  simp [execOp,ho,Instr.buildSlice,run_underlying_of he,hsz,Instr.fill,newRow]
  congr 2
  apply Array.ext'
  simp
 refine ok_run (ρ':=upd ρ d ⟨false,0,0,0,0⟩) hrun ?_
 have R':=(R.grow hbl (.inr (Nat.le_refl _))).fresh (b:=.row ek [] 0) (m:=⟨false,0,0,0,0⟩) hf (.inl hlt) rfl rfl rfl (Nat.le_refl _) (.inr (Nat.le_refl _)) (fun _ _=>rfl) (fun h=>by simp [Blk.real] at h)
  (fun _ _ _=>⟨⟨by simp,rfl,fun _=>rfl,rfl,rfl⟩,fun h=>by simp [Blk.real] at h⟩) (by simp [Blk.names])
 rw [hd]
 refine R'.val (dst:=some d) (x:=.c (.at (.osl d 0))) (fun d' h=>by injection h with h;omega) ?_ (fun m hm => ?_)
 ·exact ⟨by rw [upd_same],rfl,by rw [upd_same];exact Nat.le_refl _,fun _=>⟨_,by rw [upd_same],fun h=>by rw [upd_same] at h;exact absurd h (Nat.lt_irrefl _)⟩⟩
 ·have:m=d:=by simpa [SV.names,SC.names,At.names] using hm
  rw [this,look_cons,if_pos rfl];rfl
theorem st_buildZ (R:Rel C M0 w0 sz ρ E H a w) {t ek:Nat} {ea:Bool} {zl:List D} (ht:TyOK P t (.sl ek ea zl)) (ho:o.op=.buildSlice t 0 #[]) {d:Nat} (hd:o.dst=some d) (hlt:d<sz):StepOK P C M0 w0 sz E H o (.val (.c (.at (.zsl ek)))) a w:=by
 obtain ⟨e,he,hsz,_,⟨z,hz,hzs⟩,_⟩:=ht.2.2.2
 have hbl:Below w.heap.size w (w.alloc (.cells #[] e)):=(Below.refl _ _).alloc (Nat.le_refl _) _
 have hrun:(execOp a.eval o).run P w=.ok (.value (.slice (some ⟨w.heap.size,0,none⟩) 0 0)) (w.alloc (.cells #[] e)):=by
  simp [execOp,ho,Instr.buildSlice,run_underlying_of he,hsz,Instr.fill,newRow]
  congr 2
  apply Array.ext'
  simp
 exact ok_run (ρ':=ρ) hrun ((R.grow hbl (.inr (Nat.le_refl _))).val (fun d' h=>by rw [hd] at h;injection h with h;omega) ⟨_,rfl⟩ (fun n hn=>by simp [SV.names,SC.names,At.names] at hn))
theorem st_makeD (R:Rel C M0 w0 sz ρ E H a w) {t k:Nat} {ea:Bool} {zl:List D} {y u:Operand} {ik jk:IntKind} {l c:Int} (ht:TyOK P t (.sl k ea zl)) (ho:o.op=.makeSlice t y u) (he:ev (look E) y=some (.c (.at (.d (.v (.int ik l))))))
  (hz:ev (look E) u=some (.c (.at (.d (.v (.int jk c)))))) (hi:0≤l∧l≤c∧c≤1000000) {d:Nat} (hd:o.dst=some d) (hlt:d<sz) :
  StepOK P C M0 w0 sz E H o (.val (sD (.list k (List.replicate l.toNat (zl.map normD))))) a w:=by
 obtain ⟨e,he2,_,_,_,i,z,hi2,hsz,hzero,hzs,hzd,hby⟩:=ht.2.2.2
 have h1:=rep_int' (show Rep w (Mof M0 ρ H) (.v (.int ik l)) (a.eval y) from (ev_ok R he).1)
 have h2:=rep_int' (show Rep w (Mof M0 ρ H) (.v (.int jk c)) (a.eval u) from (ev_ok R hz).1)
 have hb:(i.bytes:Int)*c≤281474976710656:=by
  have:(i.bytes:Int)*c≤65536*1000000:=Int.mul_le_mul (by omega) hi.2.2 (by omega) (by omega)
  omega
 have hr:=run_make (P:=P) w t e i z he2 hi2 hzero ik jk l c hi.1 hi.2.1 hb (by omega)
 have hrun:(execOp a.eval o).run P w=.ok (.value (.slice (some ⟨w.heap.size,0,none⟩) l.toNat c.toNat)) (w.alloc (.cells (madeCells z.cells (c.toNat*i.size)) e)):=by
  simp [execOp,ho,h1,h2,hr]
 have hbl:Below w.heap.size w (w.alloc (.cells (madeCells z.cells (c.toNat*i.size)) e)):=(Below.refl _ _).alloc (Nat.le_refl _) _
 refine ok_run (x:=.val _) hrun ((R.grow hbl (.inr (Nat.le_refl _))).val (fun d' h=>by rw [hd] at h;injection h with h;omega) ?_ (fun n hn=>by simp [sD,SV.names,SC.names,At.names] at hn))
 have hMl:=R.Mlt
 have hk:∀ x∈List.replicate l.toNat (zl.map normD),x.length=k:=fun x hx=>by
  rw [List.eq_of_mem_replicate hx,List.length_map]
  have:=(hzd w (fun _=>False)).length
  rw [← this];simpa using hzs
 have hD:=DsR.replicate (DsR.norm (hzd (w.alloc (.cells (madeCells z.cells (c.toNat*i.size)) e)) (Mof M0 ρ H))) l.toNat
 have hcells:(w.alloc (.cells (madeCells z.cells (c.toNat*i.size)) e)).heap[w.heap.size]? = some (.cells (madeCells z.cells (c.toNat*i.size)) e (0,0)):=heap_alloc_new w _
 have hlist:(madeCells z.cells (c.toNat*i.size)).toList=(List.replicate l.toNat z.cells.toList).flatten++(List.replicate (c.toNat-l.toNat) z.cells.toList).flatten:=by
  rw [hsz,← hzs,made_list,← List.flatten_append,List.replicate_append_replicate]
  congr 2
  omega
 have key:=rep_of_row (w:=w.alloc (.cells (madeCells z.cells (c.toNat*i.size)) e)) (M:=Mof M0 ρ H) (b:=w.heap.size) (off:=0) (cap:=c.toNat) hk hD (fun j hj=>by
  rw [Nat.zero_add,cell_of ⟨e,by rw [hcells]⟩ j (cs:=(madeCells z.cells (c.toNat*i.size)).toList),hlist,List.getElem?_append_left hj]) (by simp;omega) (by omega) (fun hm=>by have:=hMl _ hm;omega) (by simp)
 show Rep _ _ (.list _ _) _
 simpa using key
theorem svs_ok (R:Rel C M0 w0 sz ρ E H a w):∀ {ys:List Operand} {us:List Value},svsV? (ys.map (ev (look E)))=some us→ys.map a.eval=us
 | [],us,h=>by simp [svsV?] at h;subst h;rfl
 | y::ys,us,h=>by
  simp only [List.map_cons] at h
  cases hy:ev (look E) y with
  | none=>rw [hy] at h;simp [svsV?] at h
  | some s =>
   rw [hy] at h
   simp only [svsV?] at h
   split at h
   ·rename_i v r hv hr
    injection h with h
    subst h
    rw [List.map_cons,svV_rel hv (ev_ok R hy).1,svs_ok R hr]
   ·cases h
theorem st_pureOp (R:Rel C M0 w0 sz ρ E H a w) {us:List Value} {v:Value} (hus:svsV? (o.op.operands.toList.map (ev (look E)))=some us) (h:PureOp P o us v) {d:Nat} (hd:o.dst=some d) (hlt:d<sz):StepOK P C M0 w0 sz E H o (.val (sV v)) a w :=
 st_pure R (h.2.2 a.eval (svs_ok R hus) w) h.1 h.2.1 hd hlt
theorem flaL_rel {w w':World} {M M':Nat→Prop}:∀ {l:List D} {us:List Value},flaL l=true→DsR w M l us→DsR w' M' l us
 | [],[],_,_=>trivial
 | .v y::l,u::us,h,k=>by
  refine ⟨?_,flaL_rel (by simpa [flaL] using h) k.2⟩
  have:=k.1
  cases this with
  | v _ h1 h2=>exact .v _ h1 h2
 | .list n []::l,u::us,h,k=>by
  refine ⟨?_,flaL_rel (by simpa [flaL] using h) k.2⟩
  have:=k.1
  cases this with
  | nil _ x c hm hx=>exact .nil n x c hm hx
  | list vs hc hm hM hb hk hv hr=>exact .nil _ (some _) _ hm (fun h=>by cases h)
 | .list _ (_::_)::l,_::us,h,_=>by simp [flaL] at h
 | .nil _::l,_::us,h,_=>by simp [flaL] at h
 | .emp _::l,_::us,h,_=>by simp [flaL] at h
 | .ref _::l,_::us,h,_=>by simp [flaL] at h
 | .clo _ _::l,_::us,h,_=>by simp [flaL] at h
 | [],_::_,_,k=>k.elim
 | _::_,[],_,k=>k.elim
theorem flaC_rel {w w':World} {M M':Nat→Prop} {c:DC} {v:Value} (h:flaC c=true) (k:DCR w M c v):DCR w' M' c v:=by
 cases c with
 | one y =>
  have:DsR w M [y] [v]:=⟨k,trivial⟩
  exact (flaL_rel (w':=w') (M':=M') h this).1
 | agg l=>obtain ⟨vs,e,k⟩:=k;exact ⟨vs,e,flaL_rel h k⟩
theorem flaCs_rel {w w':World} {M M':Nat→Prop}:∀ {l:List DC} {us:List Value},flaCs l=true→DCsR w M l us→DCsR w' M' l us
 | [],[],_,_=>trivial
 | c::l,u::us,h,k=>by
  simp only [flaCs] at h
  split at h
  ·rename_i hc;exact ⟨flaC_rel hc k.1,flaCs_rel h k.2⟩
  ·cases h
 | [],_::_,_,k=>k.elim
 | _::_,[],_,k=>k.elim
theorem flaV_rel {w w':World} {M M':Nat→Prop} {r:DV} {v:Value} (h:flaV r=true) (k:DVR w M r v):DVR w' M' r v:=by
 cases r with
 | c c=>exact flaC_rel h k
 | tup l=>obtain ⟨vs,e,k⟩:=k;exact ⟨vs,e,flaCs_rel h k⟩
theorem osl_lent (R:Rel C M0 w0 sz ρ E H a w) {n v0 v' k:Nat} {l:List (List D)} {v:Value} (hb:look H n=some (.row k l v')) (hv:Nat.beq v0 v'=true) (h:AtR ρ w (Mof M0 ρ H) (.osl n v0) v):Rep w (fun _=>False) (.list k l) v:=by
 have hv:v0=v':=by simpa using hv
 subst hv
 obtain ⟨e1,e2,e3,e4⟩:=h
 have B:=R.blk n _ hb
 obtain ⟨⟨k1,k2,k3,k4,k5⟩,hreal⟩:=R.blk n _ hb
 exact row_data B (e4 k4.symm) (fun _ _ h=>h.elim) (fun _ h=>h.elim) (fun h=>R.hi n _ hb (by simpa [Blk.real] using h))
theorem atsL_rel (R:Rel C M0 w0 sz ρ E H a w) {hh:Nat→Option Blk} (honly:∀ n b,hh n=some b→look H n=some b):∀ {l:List At} {us:List Value} {ds:List D},atsL hh l=some ds→AtsR ρ w (Mof M0 ρ H) l us→DsR w (fun _=>False) ds us
 | [],[],ds,h,_=>by simp [atsL] at h;subst h;trivial
 | [],_::_,_,_,k=>k.elim
 | x::l,[],_,_,k=>k.elim
 | x::l,u::us,ds,h,k=>by
  unfold atsL at h
  split at h
  ·rename_i e
   cases e
  ·rename_i n v l' e
   injection e with e1 e2
   subst e1 e2
   split at h
   ·rename_i k0 r v' ds' hb hr
    split at h
    ·rename_i hv
     injection h with h
     subst h
     exact ⟨osl_lent R (honly _ _ hb) hv k.1,atsL_rel R honly hr k.2⟩
    ·cases h
   ·cases h
  ·rename_i a' l' _ e
   injection e with e1 e2
   subst e1 e2
   split at h
   ·rename_i d ds' hd hr
    injection h with h
    subst h
    have h1:AtsR ρ w (Mof M0 ρ H) [_] [u]:=⟨k.1,trivial⟩
    have h2:=(atsD_rel' hd h1).mono (.refl _ w) (M':=fun _=>False) (fun _ _ h=>h.elim)
    exact ⟨h2.1,atsL_rel R honly hr k.2⟩
   ·cases h
theorem argL_rel (R:Rel C M0 w0 sz ρ E H a w) {hh:Nat→Option Blk} (honly:∀ n b,hh n=some b→look H n=some b) {s:SV} {c:DC} {v:Value} (hs:argL hh s=some c) (k:SVR ρ w (Mof M0 ρ H) s v):DCR w (fun _=>False) c v:=by
 unfold argL at hs
 split at hs
 ·rename_i n v0
  split at hs
  ·rename_i k0 l v' hb
   split at hs
   ·rename_i hv
    injection hs with hs
    subst hs
    exact osl_lent R (honly _ _ hb) hv k
   ·cases hs
  ·cases hs
 ·rename_i l
  split at hs
  ·rename_i r hr
   injection hs with hs
   subst hs
   obtain ⟨us,rfl,k⟩:=k
   exact ⟨us,rfl,atsL_rel R honly hr k⟩
  ·cases hs
 ·exact argOf_rel R (fun _ _ h=>h.elim) honly (fun _ _ _ _ h=>h) hs k
theorem argsL_rel (R:Rel C M0 w0 sz ρ E H a w) {hh:Nat→Option Blk} (honly:∀ n b,hh n=some b→look H n=some b):∀ {ys:List Operand} {args:List DC},argsL hh (ys.map (ev (look E)))=some args→DCsR w (fun _=>False) args (ys.map a.eval)
 | [],args,hs=>by simp [argsL] at hs;subst hs;trivial
 | y::ys,args,hs=>by
  simp only [List.map_cons] at hs
  cases hy:ev (look E) y with
  | none=>rw [hy] at hs;simp [argsL] at hs
  | some s =>
   rw [hy] at hs
   simp only [argsL] at hs
   split at hs
   ·rename_i c r hc hr
    injection hs with hs
    subst hs
    exact ⟨argL_rel R honly hc (ev_ok R hy).1,argsL_rel R honly hr⟩
   ·cases hs
theorem st_callL (R:Rel C M0 w0 sz ρ E H a w) {c:Call} {f:Nat} {fo:Operand} {args:List DC} {r:DV} {hh:Nat→Option Blk} (honly:∀ n b,hh n=some b→look H n=some b) (ho:o.op=.call c) (hc:c.callee=.value fo) (hf:ev (look E) fo=some (.c (.at (.fn f []))))
  (ha:argsL hh (c.args.toList.map (ev (look E)))=some args) (hr:FnL P f args r) (hdm:C w0.heap.size) {d:Nat} (hd:o.dst=some d) (hlt:d<sz):StepOK P C M0 w0 sz E H o (.val (embV r)) a w:=by
 have hfv:a.eval fo=.func (.func f) #[] ([]:List Value).toArray:=by
  have:=(ev_ok R hf).1.2
  simpa using this
 refine st_fn (dm:=false) R (M':=fun _=>False) R.flo (exec_call ho hc hfv) ?_ hr.2 (fun _=>hdm) (fun _ _ h=>flaV_rel hr.1 h) hd hlt
 rw [List.append_nil]
 exact argsL_rel R honly ha
set_option maxHeartbeats 4000000 in
theorem stepC_sound (hΓ:ΓOK P Γ) (hdm:Γ.dm=false→C w0.heap.size) (R:Rel C M0 w0 sz ρ E H a w) {c:Call} {vals:List (Option SV)} {hh:Nat→Option Blk} {fr:Bool} (ho:o.op=.call c) (honly:∀ n b,hh n=some b→look H n=some b) (hfresh:∀ d,o.dst=some d→fr=true→look H d=none)
  (hvals:vals=(Op.call c).operands.toList.map (ev (look E))) (h:(stepC P Γ sz o c vals hh fr).has x):StepOK P C M0 w0 sz E H o x a w:=by
 unfold stepC at h
 split at h
 ·rename_i fo args ts f caps vs
  simp only [Op.operands,Call.operands,Array.toList_append,List.map_cons,List.cons_append,List.nil_append,List.cons.injEq] at hvals
  obtain ⟨hv0,hvs⟩:=hvals
  split at h
  ·split at h
   ·rename_i n v r
    split at h
    ·rename_i k l v' ar hb har
     split at h
     ·rename_i hv
      have hv:v=v':=by simpa using hv
      subst hv
      obtain ⟨d,hd,hlt,l',hmu,h⟩:=guardD_has h
      have h:Eff.new _ _ _=x:=h
      subst h
      cases hargs:args.toList with
      | nil=>rw [hargs] at hvs;cases hvs
      | cons y ys =>
       rw [hargs] at hvs
       simp only [List.map_cons,List.cons.injEq] at hvs
       obtain ⟨e1,e2⟩:=hvs
       subst e2
       exact st_callM R (c:=⟨.value fo,args,ts⟩) honly ho rfl hv0.symm hargs e1.symm (honly _ _ hb) har hmu hd hlt
     ·exact h.elim
    ·exact h.elim
   ·exact h.elim
  split at h
  ·split at h
   ·rename_i n v r
    split at h
    ·rename_i k l v' ar hb har
     split at h
     ·rename_i hv
      have hv:v=v':=by simpa using hv
      subst hv
      obtain ⟨d,hd,hlt,l',hmu,h⟩:=guardD_has h
      have h:Eff.new _ _ _=x:=h
      subst h
      cases hargs:args.toList with
      | nil=>rw [hargs] at hvs;cases hvs
      | cons y ys =>
       rw [hargs] at hvs
       simp only [List.map_cons,List.cons.injEq] at hvs
       obtain ⟨e1,e2⟩:=hvs
       subst e2
       exact st_callK R (c:=⟨.value fo,args,ts⟩) honly ho rfl hv0.symm hargs e1.symm (honly _ _ hb) har hmu hd hlt
     ·exact h.elim
    ·exact h.elim
   ·exact h.elim
  split at h
  ·split at h
   ·rename_i ar cs har hcs
    subst hvs
    split at h
    ·rename_i hl hnd hdm0
     split at h
     ·split at h
      ·rename_i d hd
       obtain ⟨d',hd',hlt,q,h1,h⟩:=guardD_has h
       have:d'=d:=by rw [hd'] at hd;injection hd
       subst this
       have h:Eff.new _ _ _=x:=h
       subst h
       exact st_callF R (c:=⟨.value fo,args,ts⟩) honly ho rfl hv0.symm hl har h1 (hdm hdm0) hd' hlt (hfresh _ hd' rfl)
      ·exact h.elim
     ·obtain ⟨d,hd,hlt,r,cs',h1,h⟩:=guardD_has h
      have hc1:cs'.length=1:=by rw [h1.1,caps_len hcs];rfl
      obtain ⟨c1,rfl⟩:=List.length_eq_one_iff.1 hc1
      have h:Eff.new _ _ _=x:=h
      subst h
      have key:=st_callMem R (c:=⟨.value fo,args,ts⟩) honly ho rfl hv0.symm hl har hcs hnd h1 (hdm hdm0) hd hlt
      intro next Q hn
      refine key next Q fun ρ' v w' R'=>hn ρ' v w' ?_
      rw [hd] at R' ⊢
      exact R'
     ·obtain ⟨d,hd,hlt,r,cs',h1,h⟩:=guardD_has h
      have h:Eff.many _ _=x:=h
      subst h
      exact st_callMem R (c:=⟨.value fo,args,ts⟩) honly ho rfl hv0.symm hl har hcs hnd h1 (hdm hdm0) hd hlt
    ·exact h.elim
   ·exact h.elim
  ·split at h
   ·rename_i ar cs har hcs
    subst hvs
    split at h
    ·have hc0:caps=[]:=by have:=caps_len hcs;simpa [eq_comm] using this
     subst hc0
     split at h
     ·obtain ⟨d,hd,hlt,r,h1,h⟩:=guardD_has h
      have h:Eff.val _=x:=h
      subst h
      exact st_callB R (c:=⟨.value fo,args,ts⟩) honly ho rfl hv0.symm hcs har (by simpa [refsC] using h1) hdm hd hlt
     ·rename_i hl
      split at h
      ·split at h
       ·rename_i d hd
        obtain ⟨d',hd',hlt,q,h1,h⟩:=guardD_has h
        have:d'=d:=by rw [hd'] at hd;injection hd
        subst this
        have h:Eff.new _ _ _=x:=h
        subst h
        exact st_callO R (c:=⟨.value fo,args,ts⟩) honly ho rfl hv0.symm hl har h1 hdm hd' hlt (hfresh _ hd' rfl)
       ·exact h.elim
      ·obtain ⟨d,hd,hlt,r,h1,h⟩:=guardD_has h
       have h:Eff.val _=x:=h
       subst h
       exact st_call R (c:=⟨.value fo,args,ts⟩) honly ho rfl hv0.symm hl har h1 hdm hd hlt
    ·split at h
     ·rename_i ar2 har2
      obtain ⟨d,hd,hlt,r,h1,h⟩:=guardD_has h
      have h:Eff.val _=x:=h
      subst h
      exact st_callB R (c:=⟨.value fo,args,ts⟩) honly ho rfl hv0.symm hcs har (by rw [← catL_eq har2];exact h1) hdm hd hlt
     ·exact h.elim
   ·rename_i har hcs
    subst hvs
    have hc0:caps=[]:=by have:=caps_len hcs;simpa [eq_comm] using this
    subst hc0
    split at h
    ·rename_i ar2 har2 hdm0
     obtain ⟨d,hd,hlt,r,h1,h⟩:=guardD_has h
     have h:Eff.val _=x:=h
     subst h
     exact st_callL R (c:=⟨.value fo,args,ts⟩) honly ho rfl hv0.symm har2 h1 (hdm hdm0) hd hlt
    ·exact h.elim
   ·exact h.elim
 ·rename_i fo args ts f cs vs
  simp only [Op.operands,Call.operands,Array.toList_append,List.map_cons,List.cons_append,List.nil_append,List.cons.injEq] at hvals
  obtain ⟨hv0,hvs⟩:=hvals
  subst hvs
  split at h
  ·rename_i ar har
   split at h
   ·rename_i ar2 har2
    split at h
    ·obtain ⟨d,hd,hlt,r,h1,h⟩:=guardD_has h
     have h:Eff.val _=x:=h
     subst h
     exact st_callCB R (c:=⟨.value fo,args,ts⟩) honly ho rfl hv0.symm har (by rw [← catL_eq har2];exact h1) hdm hd hlt
    ·rename_i hl
     obtain ⟨d,hd,hlt,r,h1,h⟩:=guardD_has h
     have h:Eff.val _=x:=h
     subst h
     exact st_callC R (c:=⟨.value fo,args,ts⟩) honly ho rfl hv0.symm hl har (by rw [← catL_eq har2];exact h1) hdm hd hlt
   ·exact h.elim
  ·exact h.elim
 ·rename_i args ts s y
  simp only [Op.operands,Call.operands,Array.toList_append,List.nil_append] at hvals
  split at h
  ·rename_i k ea zl kx ex zx ht htx hts
   obtain ⟨t,tx,rfl⟩:∃ t tx,ts=#[t,tx]:=by
    have hts:ts.size=2:=by simpa using hts
    exact ⟨ts[0],ts[1],by apply Array.ext' ; match hx:ts.toList,(show ts.toList.length=2 by simpa using hts) with|[p,q],_=>simp [← Array.getElem_toList,hx]⟩
   obtain ⟨y1,y2,hy⟩:∃ y1 y2,args.toList=[y1,y2]:=by
    have:=congrArg List.length hvals
    simp at this
    match hx:args.toList,this with
    | [y1,y2],_=>exact ⟨y1,y2,rfl⟩
    | [],h=>simp [← Array.length_toList,hx] at h
    | [_],h=>simp [← Array.length_toList,hx] at h
    | _::_::_::_,h=>simp [← Array.length_toList,hx] at h
   rw [hy] at hvals
   simp only [List.map_cons,List.map_nil,List.cons.injEq,and_true] at hvals
   have T1:=hΓ _ _ (show look Γ.ty t=_ by simpa using ht)
   have T2:=hΓ _ _ (show look Γ.ty tx=_ by simpa using htx)
   split at h
   ·rename_i xs hx hn
    split at h
    ·split at h
     ·rename_i d hd
      obtain ⟨d',hd',hlt,h1,h⟩:=guardD_has h
      have:d'=d:=by rw [hd'] at hd;injection hd
      subst this
      have h:Eff.new _ _ _=x:=h
      subst h
      exact (st_appendNil R honly T1 T2 (c:=⟨.builtin .append,args,#[t,tx]⟩) ho rfl rfl hy hvals.1.symm hn hvals.2.symm hx h1 hd' hlt).1 (hfresh _ hd' rfl)
     ·exact h.elim
    ·obtain ⟨d,hd,hlt,h1,h⟩:=guardD_has h
     have h:Eff.val _=x:=h
     subst h
     exact (st_appendNil R honly T1 T2 (c:=⟨.builtin .append,args,#[t,tx]⟩) ho rfl rfl hy hvals.1.symm hn hvals.2.symm hx h1 hd hlt).2
   ·rename_i xs hx hn
    split at h
    ·rename_i n v
     split at h
     ·rename_i k' l v' hb
      split at h
      ·rename_i hk hv
       have hk:k'=k:=by simpa using hk
       have hv:v=v':=by simpa using hv
       subst hk hv
       split at h
       ·obtain ⟨d,hd,hlt,h1,h⟩:=guardD_has h
        have h:Eff.new _ _ _=x:=h
        subst h
        exact (st_appendRow R honly T1 T2 (c:=⟨.builtin .append,args,#[t,tx]⟩) ho rfl rfl hy hvals.1.symm (honly _ _ hb) hvals.2.symm hx h1 hd hlt).1
       ·obtain ⟨d,hd,hlt,h1,h⟩:=guardD_has h
        have h:Eff.new _ _ _=x:=h
        subst h
        exact (st_appendRow R honly T1 T2 (c:=⟨.builtin .append,args,#[t,tx]⟩) ho rfl rfl hy hvals.1.symm (honly _ _ hb) hvals.2.symm hx h1 hd hlt).2
      ·exact h.elim
     ·exact h.elim
    ·split at h
     ·obtain ⟨d,hd,hlt,l',⟨h1,h2⟩,h⟩:=guardD_has h
      have h:Eff.val _=x:=h
      subst h
      exact st_appendHue R honly T1 T2 (c:=⟨.builtin .append,args,#[t,tx]⟩) ho rfl rfl hy (ev_ok R hvals.1.symm).1 hvals.2.symm hx h1 h2 hd hlt
     ·exact h.elim
    ·exact h.elim
   ·exact h.elim
  ·exact h.elim
 ·rename_i args ts k l
  simp only [Op.operands,Call.operands] at hvals
  split at h
  ·rename_i ek ea zl ht
   split at h
   ·rename_i hts
    have hts:0<ts.size:=by simpa using hts
    simp only [Array.toList_append,List.nil_append] at hvals
    obtain ⟨y,hy⟩:∃ y,args.toList=[y]:=by
     have:=congrArg List.length hvals
     simp at this
     exact List.length_eq_one_iff.1 (by simpa using this.symm)
    rw [hy] at hvals
    refine st_len R (c:=⟨.builtin .len,args,ts⟩) (hΓ _ _ ht) ho rfl ?_ hy (by simpa [eq_comm] using hvals) h
    simp [Array.getElem?_eq_getElem hts]
   ·exact h.elim
  ·exact h.elim
 ·rename_i args ts k
  simp only [Op.operands,Call.operands] at hvals
  split at h
  ·rename_i ek ea zl ht
   split at h
   ·rename_i hts
    have hts:0<ts.size:=by simpa using hts
    simp only [Array.toList_append,List.nil_append] at hvals
    obtain ⟨y,hy⟩:∃ y,args.toList=[y]:=by
     have:=congrArg List.length hvals
     simp at this
     exact List.length_eq_one_iff.1 (by simpa using this.symm)
    rw [hy] at hvals
    obtain ⟨d,hd,hlt,rfl⟩:=retD_has h
    exact st_lenEmp R (c:=⟨.builtin .len,args,ts⟩) (hΓ _ _ ht) ho rfl (by simp [Array.getElem?_eq_getElem hts]) hy (by simpa [eq_comm] using hvals) hd hlt
   ·exact h.elim
  ·exact h.elim
 ·rename_i args ts k
  simp only [Op.operands,Call.operands] at hvals
  split at h
  ·rename_i ek ea zl ht
   split at h
   ·rename_i hts
    have hts:0<ts.size:=by simpa using hts
    simp only [Array.toList_append,List.nil_append] at hvals
    obtain ⟨y,hy⟩:∃ y,args.toList=[y]:=by
     have:=congrArg List.length hvals
     simp at this
     exact List.length_eq_one_iff.1 (by simpa using this.symm)
    rw [hy] at hvals
    obtain ⟨d,hd,hlt,rfl⟩:=retD_has h
    exact st_lenNil R (c:=⟨.builtin .len,args,ts⟩) (hΓ _ _ ht) ho rfl (by simp [Array.getElem?_eq_getElem hts]) hy (by simpa [eq_comm] using hvals) hd hlt
   ·exact h.elim
  ·exact h.elim
 ·rename_i args ts n v
  simp only [Op.operands,Call.operands] at hvals
  split at h
  ·rename_i ek ea zl k l v' ht hb
   split at h
   ·rename_i hts hv
    have hv:v=v':=by simpa using hv
    subst hv
    have hts:0<ts.size:=by simpa using hts
    simp only [Array.toList_append,List.nil_append] at hvals
    obtain ⟨y,hy⟩:∃ y,args.toList=[y]:=by
     have:=congrArg List.length hvals
     simp at this
     exact List.length_eq_one_iff.1 (by simpa using this.symm)
    rw [hy] at hvals
    obtain ⟨d,hd,hlt,rfl⟩:=retD_has h
    exact st_lenRow R (c:=⟨.builtin .len,args,ts⟩) (hΓ _ _ ht) ho rfl (by simp [Array.getElem?_eq_getElem hts]) hy (by simpa [eq_comm] using hvals) (honly _ _ hb) hd hlt
   ·exact h.elim
  ·exact h.elim
 ·rename_i args ts k a1 k' a2
  simp only [Op.operands,Call.operands,Array.toList_append,List.nil_append] at hvals
  split at h
  ·rename_i hk
   have:=sameK_eq hk
   subst this
   obtain ⟨d,hd,hlt,rfl⟩:=retD_has h
   obtain ⟨y1,y2,hy⟩:∃ y1 y2,args.toList=[y1,y2]:=by
    have:=congrArg List.length hvals
    simp at this
    match hx:args.toList,this with
    | [y1,y2],_=>exact ⟨y1,y2,rfl⟩
    | [],h=>simp [← Array.length_toList,hx] at h
    | [_],h=>simp [← Array.length_toList,hx] at h
    | _::_::_::_,h=>simp [← Array.length_toList,hx] at h
   rw [hy] at hvals
   simp only [List.map_cons,List.map_nil,List.cons.injEq,and_true] at hvals
   obtain ⟨e1,w1⟩:=rep_int (show Rep w (Mof M0 ρ H) (.v (.int k a1)) (a.eval y1) from (ev_ok R hvals.1.symm).1)
   obtain ⟨e2,w2⟩:=rep_int (show Rep w (Mof M0 ρ H) (.v (.int k a2)) (a.eval y2) from (ev_ok R hvals.2.symm).1)
   refine st_builtin R ho rfl (fun ts t cs => ?_) rfl (inK_max w1 w2) hd hlt
   simp only [hy,List.map_cons,List.map_nil,e1,e2,builtin]
   simp [Builtin.max_,Builtin.max2,maxI]
  ·exact h.elim
 ·rename_i args ts k a1 k' a2 k'' a3
  simp only [Op.operands,Call.operands,Array.toList_append,List.nil_append] at hvals
  split at h
  ·rename_i hk hk2
   have:=sameK_eq hk
   subst this
   have:=sameK_eq hk2
   subst this
   obtain ⟨d,hd,hlt,rfl⟩:=retD_has h
   obtain ⟨y1,y2,y3,hy⟩:∃ y1 y2 y3,args.toList=[y1,y2,y3]:=by
    have:=congrArg List.length hvals
    simp at this
    match hx:args.toList,this with
    | [y1,y2,y3],_=>exact ⟨y1,y2,y3,rfl⟩
    | [],h=>simp [← Array.length_toList,hx] at h
    | [_],h=>simp [← Array.length_toList,hx] at h
    | [_,_],h=>simp [← Array.length_toList,hx] at h
    | _::_::_::_::_,h=>simp [← Array.length_toList,hx] at h
   rw [hy] at hvals
   simp only [List.map_cons,List.map_nil,List.cons.injEq,and_true] at hvals
   obtain ⟨e1,w1⟩:=rep_int (show Rep w (Mof M0 ρ H) (.v (.int k a1)) (a.eval y1) from (ev_ok R hvals.1.symm).1)
   obtain ⟨e2,w2⟩:=rep_int (show Rep w (Mof M0 ρ H) (.v (.int k a2)) (a.eval y2) from (ev_ok R hvals.2.1.symm).1)
   obtain ⟨e3,w3⟩:=rep_int (show Rep w (Mof M0 ρ H) (.v (.int k a3)) (a.eval y3) from (ev_ok R hvals.2.2.symm).1)
   refine st_builtin R ho rfl (fun ts t cs => ?_) rfl (inK_max (inK_max w1 w2) w3) hd hlt
   simp only [hy,List.map_cons,List.map_nil,e1,e2,e3,builtin]
   simp [Builtin.max_,Builtin.max2,maxI]
  ·exact h.elim
 ·rename_i args ts k a1 k' a2
  simp only [Op.operands,Call.operands,Array.toList_append,List.nil_append] at hvals
  split at h
  ·rename_i hk
   have:=sameK_eq hk
   subst this
   obtain ⟨d,hd,hlt,rfl⟩:=retD_has h
   obtain ⟨y1,y2,hy⟩:∃ y1 y2,args.toList=[y1,y2]:=by
    have:=congrArg List.length hvals
    simp at this
    match hx:args.toList,this with
    | [y1,y2],_=>exact ⟨y1,y2,rfl⟩
    | [],h=>simp [← Array.length_toList,hx] at h
    | [_],h=>simp [← Array.length_toList,hx] at h
    | _::_::_::_,h=>simp [← Array.length_toList,hx] at h
   rw [hy] at hvals
   simp only [List.map_cons,List.map_nil,List.cons.injEq,and_true] at hvals
   obtain ⟨e1,w1⟩:=rep_int (show Rep w (Mof M0 ρ H) (.v (.int k a1)) (a.eval y1) from (ev_ok R hvals.1.symm).1)
   obtain ⟨e2,w2⟩:=rep_int (show Rep w (Mof M0 ρ H) (.v (.int k a2)) (a.eval y2) from (ev_ok R hvals.2.symm).1)
   refine st_builtin R ho rfl (fun ts t cs => ?_) rfl (inK_min w1 w2) hd hlt
   simp only [hy,List.map_cons,List.map_nil,e1,e2,builtin]
   simp [Builtin.min_,Builtin.min2,minI]
  ·exact h.elim
 ·split at h
  ·rename_i us hus
   obtain ⟨d,hd,hlt,v,h1,h⟩:=guardD_has h
   have h:Eff.val _=x:=h
   subst h
   rw [hvals] at hus
   exact st_pureOp R (by rw [ho];exact hus) h1 hd hlt
  ·exact h.elim
set_option maxHeartbeats 4000000 in
theorem step_sound (hΓ:ΓOK P Γ) (hdm:Γ.dm=false→C w0.heap.size) (R:Rel C M0 w0 sz ρ E H a w) (h:(stepF P Γ sz o (look E) (look H)).has x):StepOK P C M0 w0 sz E H o x a w:=by
 unfold stepF at h
 have honly:∀ n b,onlyN (look H) (namR o (valsOf (look E) o)) n=some b→look H n=some b:=fun n b hb=>by
  unfold onlyN at hb
  split at hb
  ·exact hb
  ·cases hb
 have hfresh:∀ d,o.dst=some d→freshB (look H) o.dst=true→look H d=none:=fun d hd hf=>by
  rw [hd] at hf
  simpa [freshB] using hf
 generalize onlyN (look H) (namR o (valsOf (look E) o))=hh at h honly
 generalize freshB (look H) o.dst=fr at h hfresh
 have hvals:valsOf (look E) o=o.op.operands.toList.map (ev (look E)):=rfl
 generalize valsOf (look E) o=vals at h hvals
 unfold stepV at h
 split at h
 ·rename_i y s ho
  rw [ho] at hvals
  exact st_mv R hfresh (.inl ho) (by simpa [Op.operands,eq_comm] using hvals) h
 ·rename_i y s ho
  rw [ho] at hvals
  exact st_mv R hfresh (.inr ho) (by simpa [Op.operands,eq_comm] using hvals) h
 ·rename_i yc ya yb b sx sy ho
  rw [ho] at hvals
  simp only [Op.operands,List.map_cons,List.map_nil,List.cons.injEq,and_true] at hvals
  split at h
  ·rename_i x1 x2
   obtain ⟨d,hd,hlt,h⟩:=guardD_has h
   have hc:Rep w (Mof M0 ρ H) (.v (.bool b)) (a.eval yc):=(ev_ok R hvals.1.symm).1
   generalize hcv:a.eval yc=u at hc
   cases hc
   rcases h with ⟨hb,h⟩|⟨hb,h⟩
   ·have h:Eff.val _=x:=h
    subst h hb
    have k:=ev_ok R hvals.2.1.symm
    exact ok_val R (v:=a.eval ya) (by simp [execOp,ho,hcv,asBool]) hd hlt k.1 k.2
   ·have h:Eff.val _=x:=h
    subst h hb
    have k:=ev_ok R hvals.2.2.symm
    exact ok_val R (v:=a.eval yb) (by simp [execOp,ho,hcv,asBool]) hd hlt k.1 k.2
  ·exact h.elim
 ·rename_i t ho
  split at h
  ·rename_i td d ht hd
   obtain ⟨d',hd',hlt,h⟩:=guardD_has h
   have:d'=d:=by rw [hd'] at hd;injection hd
   subst this
   have h:Eff.new _ _ _=x:=h
   subst h
   exact st_alloc R (hΓ _ _ ht) ho hd' hlt (hfresh _ hd' rfl)
  ·exact h.elim
 ·rename_i t y s ho
  rw [ho] at hvals
  split at h
  ·rename_i d hd
   obtain ⟨d',hd',hlt,h⟩:=guardD_has h
   have:d'=d:=by rw [hd'] at hd;injection hd
   subst this
   have h:Eff.new _ _ _=x:=h
   subst h
   exact st_box R ho (by simpa [Op.operands,eq_comm] using hvals) hd' hlt (hfresh _ hd' rfl)
  ·exact h.elim
 ·rename_i t y n off ho
  rw [ho] at hvals
  split at h
  ·rename_i td cs ht hb
   split at h
   ·rename_i s hp
    exact st_load R (hΓ _ _ ht) ho (by simpa [Op.operands,eq_comm] using hvals) (honly _ _ hb) hp h
   ·exact h.elim
  ·exact h.elim
 ·rename_i t y k l i off ho
  rw [ho] at hvals
  split at h
  ·rename_i td ht
   obtain ⟨d,hd,hlt,e,⟨h1,h2⟩,rfl⟩:=guardD_has h
   exact st_loadEl R (hΓ _ _ ht) ho (by simpa [Op.operands,eq_comm] using hvals) h1 h2 hd hlt
  ·exact h.elim
 ·rename_i t y z n off s ho
  rw [ho] at hvals
  simp only [Op.operands,List.map_cons,List.map_nil,List.cons.injEq,and_true] at hvals
  split at h
  ·rename_i td cs ht hb hd
   split at h
   ·rename_i h1 h2
    have h:Eff.put _ _=x:=h
    subst h
    exact st_store R (hΓ _ _ ht) ho hvals.1.symm hvals.2.symm (honly _ _ hb) hd (by simpa using h1) (by simpa using h2)
   ·exact h.elim
  ·exact h.elim
 ·rename_i t y i n off ho
  rw [ho] at hvals
  split at h
  ·rename_i n' z fs ht
   split at h
   ·rename_i fo fz fa hf
    split at h
    ·rename_i hz
     exact st_fieldAddr R (hΓ _ _ ht) ho (by simpa [Op.operands,eq_comm] using hvals) hf (by rintro rfl;exact absurd hz (by decide)) h
    ·exact h.elim
   ·exact h.elim
  ·exact h.elim
 ·rename_i t y i k l j off ho
  rw [ho] at hvals
  split at h
  ·rename_i n' z fs ht
   split at h
   ·rename_i fo fz fa hf
    split at h
    ·rename_i hz
     exact st_fieldAddrEl R (hΓ _ _ ht) ho (by simpa [Op.operands,eq_comm] using hvals) hf (by rintro rfl;exact absurd hz (by decide)) h
    ·exact h.elim
   ·exact h.elim
  ·exact h.elim
 ·rename_i t y i l ho
  rw [ho] at hvals
  split at h
  ·rename_i n' z fs ht
   split at h
   ·rename_i fo fz fa hf
    split at h
    ·rename_i s hp
     exact st_field R (hΓ _ _ ht) ho (by simpa [Op.operands,eq_comm] using hvals) hf hp h
    ·exact h.elim
   ·exact h.elim
  ·exact h.elim
 ·rename_i t y z l ik i ho
  rw [ho] at hvals
  simp only [Op.operands,List.map_cons,List.map_nil,List.cons.injEq,and_true] at hvals
  split at h
  ·rename_i n z' len ek ea ht
   split at h
   ·rename_i s hp
    obtain ⟨d,hd,hlt,h1,h⟩:=guardD_has h
    have h:Eff.val _=x:=h
    subst h
    exact st_indexArr R (hΓ _ _ ht) ho hvals.1.symm hvals.2.symm hp h1 hd hlt
   ·exact h.elim
  ·exact h.elim
 ·rename_i f first capt ho
  rw [ho] at hvals
  split at h
  ·rename_i l h0 hl
   have h0:first.size=0:=by simpa using h0
   have hf:first=#[]:=Array.eq_empty_of_size_eq_zero h0
   subst hf
   rw [hvals] at hl
   exact st_makeFunc R ho rfl (by simpa [Op.operands] using hl) h
  ·exact h.elim
 ·rename_i y n off ho
  rw [ho] at hvals
  exact st_nil R ho (by simpa [Op.operands,eq_comm] using hvals) h
 ·rename_i y k l i off ho
  rw [ho] at hvals
  exact st_nilEl R ho (by simpa [Op.operands,eq_comm] using hvals) h
 ·rename_i t y z ty yd ho
  rw [ho] at hvals
  simp only [Op.operands,List.map_cons,List.map_nil,List.cons.injEq,and_true] at hvals
  split at h
  ·rename_i k ea zl b ht hb
   obtain ⟨e,he,_⟩:=(hΓ _ _ ht).2.2.2
   obtain ⟨d,hd,hlt,rfl⟩:=retD_has h
   have hz:a.eval z=.slice none 0 0:=nilS_val R hvals.2.symm rfl
   have hy:Rep w (Mof M0 ρ H) yd (a.eval y):=(ev_ok R hvals.1.symm).1
   obtain ⟨ad,l,c,hyv,hnone⟩:∃ ad l c,a.eval y=.slice ad l c∧ad.isNone=b:=by
    generalize a.eval y=u at hy
    unfold isNil at hb
    split at hb
    ·injection hb with hb;subst hb;cases hy;exact ⟨_,_,_,rfl,rfl⟩
    ·injection hb with hb;subst hb;cases hy;exact ⟨_,_,_,rfl,rfl⟩
    ·injection hb with hb;subst hb;cases hy;exact ⟨_,_,_,rfl,rfl⟩
    ·cases hb
   refine st_pure R ?_ rfl trivial hd hlt
   simp only [execOp,ho,hyv,hz,Sem.run_bind]
   have h1:(eqGuard .eql t y z (.slice ad l c) (.slice none 0 0)).run P w=.ok () w:=rfl
   have h2:(binOp .eql t (.slice ad l c) (.slice none 0 0)).run P w=.ok (.bool b) w:=by
    simp [binOp,run_equal_slice_nil w t e ad l c he,hnone]
   rw [h1,Result.andThen_ok,h2]
   rfl
  ·exact h.elim
 ·rename_i op t y z ty vy vz hno ho
  rw [ho] at hvals
  simp only [Op.operands,List.map_cons,List.map_nil,List.cons.injEq,and_true] at hvals
  have ey:=ev_ok R hvals.1.symm
  have ez:=ev_ok R hvals.2.symm
  split at h
  ·rename_i k m k' n hm hn
   have hy:=svV_rel hm ey.1
   have hz:=svV_rel hn ez.1
   have wm:inK k m:=svV_wf hm ey.1
   have wn:inK k' n:=svV_wf hn ez.1
   have fin:∀ r,(binOp op t (.int k m) (.int k' n)).run P w=.ok r w→r.oneCell'=true∧wfV r→∀ d,o.dst=some d→d<sz→StepOK P C M0 w0 sz E H o (.val (sV r)) a w:=fun r hr h1 d hd hlt =>
    st_pure R (run_op_bin ho hy hz (run_bin_int hr)) h1.1 h1.2 hd hlt
   split at h
   ·rename_i hk
    have:=sameK_eq hk
    subst this
    split at h
    ·obtain ⟨d,hd,hlt,h1,h⟩:=guardD_has h
     have h:Eff.val _=x:=h
     subst h
     exact fin _ (run_quo h1) ⟨rfl,inK_wrap _ _⟩ d hd hlt
    ·obtain ⟨d,hd,hlt,h1,h⟩:=guardD_has h
     have h:Eff.val _=x:=h
     subst h
     exact fin _ (run_rem h1) ⟨rfl,wf_tmod (wm) (wn) h1⟩ d hd hlt
    ·obtain ⟨d,hd,hlt,h1,h⟩:=guardD_has h
     have h:Eff.val _=x:=h
     subst h
     exact fin _ (run_shl h1) ⟨rfl,inK_wrap _ _⟩ d hd hlt
    ·obtain ⟨d,hd,hlt,h1,h⟩:=guardD_has h
     have h:Eff.val _=x:=h
     subst h
     exact fin _ (run_shr h1) ⟨rfl,wf_fdiv _ wm⟩ d hd hlt
    ·split at h
     ·rename_i v hv
      obtain ⟨d,hd,hlt,rfl⟩:=retD_has h
      have:=run_binI (P:=P) (w:=w) (t:=t) hv
      exact fin _ this.1 this.2 d hd hlt
     ·exact h.elim
   ·split at h
    ·obtain ⟨d,hd,hlt,h1,h⟩:=guardD_has h
     have h:Eff.val _=x:=h
     subst h
     exact fin _ (run_shl h1) ⟨rfl,inK_wrap _ _⟩ d hd hlt
    ·obtain ⟨d,hd,hlt,h1,h⟩:=guardD_has h
     have h:Eff.val _=x:=h
     subst h
     exact fin _ (run_shr h1) ⟨rfl,wf_fdiv _ wm⟩ d hd hlt
    ·exact h.elim
  ·rename_i p q hm hn
   have hy:=svV_rel hm ey.1
   have hz:=svV_rel hn ez.1
   split at h
   ·rename_i ht
    obtain ⟨d,hd,hlt,rfl⟩:=retD_has h
    exact st_pure R (run_op_bin ho hy hz (run_bin_bool (run_eql_bool w t p q (hΓ _ _ ht).2.2.2))) rfl trivial hd hlt
   ·rename_i ht
    obtain ⟨d,hd,hlt,rfl⟩:=retD_has h
    exact st_pure R (run_op_bin ho hy hz (run_bin_bool (run_neq_bool w t p q (hΓ _ _ ht).2.2.2))) rfl trivial hd hlt
   ·exact h.elim
  ·rename_i u v _ _ hm hn
   have hy:=svV_rel hm ey.1
   have hz:=svV_rel hn ez.1
   obtain ⟨d,hd,hlt,r,⟨h1,hw,h2⟩,h⟩:=guardD_has h
   have h:Eff.val _=x:=h
   subst h
   exact st_pure R (run_op_bin ho hy hz (h2 w)) h1 hw hd hlt
  ·exact h.elim
 ·rename_i op ty y v ho
  rw [ho] at hvals
  split at h
  ·rename_i r hr
   exact st_un R ho (by simpa [Op.operands,eq_comm] using hvals) hr h
  ·exact h.elim
 ·rename_i s t y v ho
  rw [ho] at hvals
  have ey:=ev_ok R (show ev (look E) y=some (sV v) by simpa [Op.operands,eq_comm,sV] using hvals)
  have hy:Rep w (Mof M0 ρ H) (.v v) (a.eval y):=ey.1
  generalize hyv:a.eval y=u at hy
  cases hy
  split at h
  ·rename_i k0 k1 k2 n hs ht _ _
   obtain ⟨d,hd,hlt,rfl⟩:=retD_has h
   refine st_pure R ?_ rfl (inK_wrap _ _) hd hlt
   simp only [execOp,ho,hyv,convert,Sem.run_bind,run_underlying_of (hΓ _ _ hs).2.2.2,run_underlying_of (hΓ _ _ ht).2.2.2,Result.andThen_ok,Conv.intToInt,Sem.run_pure]
  ·obtain ⟨d,hd,hlt,r,⟨h1,hw,h2⟩,h⟩:=guardD_has h
   have h:Eff.val _=x:=h
   subst h
   refine st_pure R ?_ h1 hw hd hlt
   simp only [execOp,ho,hyv,Sem.run_bind,h2,Result.andThen_ok,Sem.run_pure]
 ·rename_i s t y k l ho
  rw [ho] at hvals
  have ey:=ev_ok R (show ev (look E) y=some (.c (.at (.d (.list k l)))) by simpa [Op.operands,eq_comm] using hvals)
  have hy:Rep w (Mof M0 ρ H) (.list k l) (a.eval y):=ey.1
  obtain ⟨d,hd,hlt,r,⟨h1,hw,h2⟩,h⟩:=guardD_has h
  have h:Eff.val _=x:=h
  subst h
  refine st_pure R ?_ h1 hw hd hlt
  simp only [execOp,ho,Sem.run_bind,h2 w _ _ hy,Result.andThen_ok,Sem.run_pure]
 ·rename_i y i l ho
  rw [ho] at hvals
  split at h
  ·rename_i s r hl
   exact st_extract R ho (by simpa [Op.operands,eq_comm] using hvals) hl h
  ·exact h.elim
 ·rename_i t len ps ho
  rw [ho] at hvals
  split at h
  ·rename_i ek ea zl ht
   split at h
   ·split at h
    ·rename_i d hd _ hps
     obtain ⟨d',hd',hlt,h⟩:=guardD_has h
     have h:Eff.val _=x:=h
     subst h
     have hps:ps.size=0:=by simpa using hps
     have hps:ps=#[]:=Array.eq_empty_of_size_eq_zero hps
     subst hps
     exact st_buildZ R (hΓ _ _ ht) ho hd' hlt
    ·rename_i d hd _ hps
     split at h
     ·obtain ⟨d',hd',hlt,h⟩:=guardD_has h
      have:d'=d:=by rw [hd'] at hd;injection hd
      subst this
      have h:Eff.new _ _ _=x:=h
      subst h
      have hps:ps.size=0:=by simpa using hps
      have hps:ps=#[]:=Array.eq_empty_of_size_eq_zero hps
      subst hps
      exact st_buildEmpty R (hΓ _ _ ht) ho hd' hlt (hfresh _ hd' rfl)
     ·exact h.elim
    ·exact h.elim
   split at h
   ·rename_i l hl
    split at h
    ·rename_i h1 h2 h3 h4
     split at h
     ·rename_i d hk hd
      obtain ⟨d',hd',hlt,h⟩:=guardD_has h
      have:d'=d:=by rw [hd'] at hd;injection hd
      subst this
      have h:Eff.new _ _ _=x:=h
      subst h
      refine st_buildRow R (hΓ _ _ ht) ho (l:=l) ?_ (by simpa using h1) (by simpa using h2) (by simpa using h3) (by simpa using h4) hd' hlt (hfresh _ hd' rfl)
      rw [hvals] at hl
      simpa [Op.operands,Function.comp_def] using hl
     ·refine st_buildSlice R (hΓ _ _ ht) ho (l:=l) ?_ (by simpa using h1) (by simpa using h2) (by simpa using h3) (by simpa using h4) h
      rw [hvals] at hl
      simpa [Op.operands,Function.comp_def] using hl
    ·exact h.elim
   ·exact h.elim
  ·exact h.elim
 ·rename_i t ps ho
  rw [ho] at hvals
  split at h
  ·rename_i n z len ek ea ht
   split at h
   ·rename_i l hl
    refine st_buildArr R (hΓ _ _ ht) ho ?_ h
    rw [hvals] at hl
    simpa [Op.operands,Function.comp_def] using hl
   ·exact h.elim
  ·rename_i n z fs ht
   split at h
   ·rename_i l hl
    refine st_build R (hΓ _ _ ht) ho ?_ h
    rw [hvals] at hl
    simpa [Op.operands,Function.comp_def] using hl
   ·exact h.elim
  ·exact h.elim
 ·rename_i c vs ho
  rw [ho] at hvals
  exact stepC_sound hΓ hdm R ho honly hfresh hvals h
 ·rename_i t y z k l ik i ho
  rw [ho] at hvals
  simp only [Op.operands,List.map_cons,List.map_nil,List.cons.injEq,and_true] at hvals
  split at h
  ·rename_i ek ea zl ht
   split at h
   ·rename_i hk
    have hk:ek=k:=by simpa using hk
    subst hk
    obtain ⟨d,hd,hlt,h1,h⟩:=guardD_has h
    have h:Eff.val _=x:=h
    subst h
    exact st_index R (hΓ _ _ ht) ho hvals.1.symm hvals.2.symm h1 hd hlt
   ·exact h.elim
  ·exact h.elim
 ·rename_i t y z n off ik i ho
  rw [ho] at hvals
  simp only [Op.operands,List.map_cons,List.map_nil,List.cons.injEq,and_true] at hvals
  split at h
  ·rename_i n' z' len ek ea ht
   obtain ⟨d,hd,hlt,h1,h⟩:=guardD_has h
   have h:Eff.val _=x:=h
   subst h
   exact st_indexPtr R (hΓ _ _ ht) ho hvals.1.symm hvals.2.symm h1 hd hlt
  ·exact h.elim
 ·rename_i t y z ik l jk c ho
  rw [ho] at hvals
  simp only [Op.operands,List.map_cons,List.map_nil,List.cons.injEq,and_true] at hvals
  split at h
  ·rename_i k ea zl ht hK
   split at h
   ·rename_i d z' hd hz'
    obtain ⟨d',hd',hlt,h1,h⟩:=guardD_has h
    have:d'=d:=by rw [hd'] at hd;injection hd
    subst this
    have h:Eff.new _ _ _=x:=h
    subst h
    rw [nrmL_eq hz']
    exact st_make R (hΓ _ _ ht) ho hvals.1.symm hvals.2.symm h1 hd' hlt (hfresh _ hd' rfl)
   ·exact h.elim
  ·rename_i k ea zl ht hK
   split at h
   ·rename_i z' hz'
    obtain ⟨d,hd,hlt,h1,h⟩:=guardD_has h
    have h:Eff.val _=x:=h
    subst h
    rw [nrmL_eq hz']
    exact st_makeD R (hΓ _ _ ht) ho hvals.1.symm hvals.2.symm h1 hd hlt
   ·exact h.elim
  ·exact h.elim
 ·rename_i t y z n v ik i ho
  rw [ho] at hvals
  simp only [Op.operands,List.map_cons,List.map_nil,List.cons.injEq,and_true] at hvals
  split at h
  ·rename_i ek ea zl k l v' ht hb
   split at h
   ·rename_i hk hv
    have hk:ek=k:=by simpa using hk
    have hv:v=v':=by simpa using hv
    subst hk hv
    obtain ⟨d,hd,hlt,h1,h⟩:=guardD_has h
    have h:Eff.val _=x:=h
    subst h
    exact st_indexRow R (hΓ _ _ ht) ho hvals.1.symm hvals.2.symm (honly _ _ hb) h1 hd hlt
   ·exact h.elim
  ·exact h.elim
 ·rename_i y n v k i off ho
  rw [ho] at hvals
  split at h
  ·rename_i k' l v' hb
   split at h
   ·rename_i hv
    have hv:v=v':=by simpa using hv
    subst hv
    exact st_nilRp R ho (by simpa [Op.operands,eq_comm] using hvals) (honly _ _ hb) h
   ·exact h.elim
  ·exact h.elim
 ·rename_i t y i n v k j off ho
  rw [ho] at hvals
  split at h
  ·rename_i n' z fs ht
   split at h
   ·rename_i fo fz fa hf
    split at h
    ·rename_i k' l v' hz hb
     split at h
     ·rename_i hv
      have hv:v=v':=by simpa using hv
      subst hv
      exact st_fieldRp R (hΓ _ _ ht) ho (by simpa [Op.operands,eq_comm] using hvals) (honly _ _ hb) hf (by rintro rfl;exact absurd hz (by decide)) h
     ·exact h.elim
    ·exact h.elim
   ·exact h.elim
  ·exact h.elim
 ·rename_i t y z k l j off ik i ho
  rw [ho] at hvals
  simp only [Op.operands,List.map_cons,List.map_nil,List.cons.injEq,and_true] at hvals
  split at h
  ·rename_i n' z' len ek ea ht
   obtain ⟨d,hd,hlt,h1,h⟩:=guardD_has h
   have h:Eff.val _=x:=h
   subst h
   exact st_indexEl R (hΓ _ _ ht) ho hvals.1.symm hvals.2.symm h1 hd hlt
  ·exact h.elim
 ·rename_i t y n v k i off ho
  rw [ho] at hvals
  split at h
  ·rename_i td k' l v' ht hb
   split at h
   ·rename_i hk hv
    have hk:k'=k:=by simpa using hk
    have hv:v=v':=by simpa using hv
    subst hk hv
    obtain ⟨d,hd,hlt,e,⟨h1,h2⟩,rfl⟩:=guardD_has h
    exact st_loadRow R (hΓ _ _ ht) ho (by simpa [Op.operands,eq_comm] using hvals) (honly _ _ hb) h1 h2 hd hlt
   ·exact h.elim
  ·exact h.elim
 ·rename_i t y z n v k i off s ho
  rw [ho] at hvals
  simp only [Op.operands,List.map_cons,List.map_nil,List.cons.injEq,and_true] at hvals
  split at h
  ·rename_i td k' l v' ds ht hb hd hds
   split at h
   ·rename_i hk hs hv
    have hk:k'=k:=by simpa using hk
    have hv:v=v':=by simpa using hv
    subst hk hv
    obtain ⟨e,⟨h1,h2⟩,rfl⟩:=h
    exact st_storeRow R (hΓ _ _ ht) ho hvals.1.symm hvals.2.symm (honly _ _ hb) hds h1 hd (by simpa using hs) h2
   ·exact h.elim
  ·exact h.elim
 ·rename_i t y lo hi mx k l bs ho
  rw [ho] at hvals
  simp only [Op.operands,Array.toList_append,List.map_append,List.map_cons,List.map_nil,List.cons_append,List.nil_append,List.cons.injEq,List.append_assoc] at hvals
  split at h
  ·rename_i ek ea zl ht
   split at h
   ·rename_i p q m hk hsl
    have hk:ek=k:=by simpa using hk
    subst hk
    have hsl':stepV.sliB lo hi mx ((lo.toArray++hi.toArray++mx.toArray).toList.map (ev (look E))) l.length=some (p,q,m):=by
     rw [hvals.2] at hsl
     simpa [List.append_assoc] using hsl
    split at h
    ·rename_i kz
     split at h
     ·split at h
      ·rename_i d hd
       obtain ⟨d',hd',hlt,h1,h⟩:=guardD_has h
       have:d'=d:=by rw [hd'] at hd;injection hd
       subst this
       have h:Eff.new _ _ _=x:=h
       subst h
       exact st_sliceOwn R (hΓ _ _ ht) ho hvals.1.symm hsl' h1 hd' hlt (hfresh _ hd' rfl)
      ·exact h.elim
     ·exact h.elim
    ·obtain ⟨d,hd,hlt,h1,h⟩:=guardD_has h
     have h:Eff.val _=x:=h
     subst h
     exact st_slice R (hΓ _ _ ht) ho hvals.1.symm hsl' h1 hd hlt
   ·exact h.elim
  ·exact h.elim
 ·split at h
  ·rename_i us hus
   obtain ⟨d,hd,hlt,v,h1,h⟩:=guardD_has h
   have h:Eff.val _=x:=h
   subst h
   rw [hvals] at hus
   exact st_pureOp R hus h1 hd hlt
  ·exact h.elim
end
end Sx
end Go.Proofs.YtddbmpbihpkabaaGreat
