import Derived.Test.YtddbmpbihpkabaaGreatGLGPartsAC
import Derived.Laws.MakeOwn
set_option linter.all false
namespace Go.Proofs.YtddbmpbihpkabaaGreat
open Go Go.RowKit
namespace Sx
theorem made_list (z:Array Value):∀ c:Nat,(madeCells z (c*z.size)).toList=(List.replicate c z.toList).flatten:=by
 intro c
 induction c with
 | zero=>simp [madeCells]
 | succ c ih =>
  have e:(madeCells z ((c+1)*z.size)).toList=(madeCells z (c*z.size)).toList++z.toList:=by
   simp only [madeCells,Array.toList_map,Array.toList_range,Nat.add_mul,Nat.one_mul,List.range_add,List.map_append,List.map_map]
   congr 1
   apply List.ext_getElem
   ·simp
   ·intro j h1 h2
    simp only [List.length_map,List.length_range] at h1
    have:(c*z.size+j) % z.size=j:=by rw [Nat.mul_comm,Nat.mul_add_mod,Nat.mod_eq_of_lt h1]
    simp [this,h1]
  rw [e,ih,List.replicate_succ',List.flatten_append]
  simp
theorem DsR.append {w:World} {M:Nat→Prop}:∀ {a b:List D} {u v:List Value},DsR w M a u→DsR w M b v→DsR w M (a++b) (u++v)
 | [],b,[],v,_,h=>h
 | x::a,b,y::u,v,h,k=>⟨h.1,DsR.append h.2 k⟩
 | [],_,_::_,_,h,_=>h.elim
 | _::_,_,[],_,h,_=>h.elim
theorem DsR.replicate {w:World} {M:Nat→Prop} {a:List D} {u:List Value} (h:DsR w M a u):∀ n:Nat,DsR w M (List.replicate n a).flatten (List.replicate n u).flatten
 | 0=>trivial
 | n+1=>by
  rw [List.replicate_succ,List.replicate_succ,List.flatten_cons,List.flatten_cons]
  exact DsR.append h (DsR.replicate h n)
theorem DsR.length {w:World} {M:Nat→Prop}:∀ {a:List D} {u:List Value},DsR w M a u→u.length=a.length
 | [],[],_=>rfl
 | x::a,y::u,h=>by simp [DsR.length h.2]
 | [],_::_,h=>h.elim
 | _::_,[],h=>h.elim
section
variable {P:Program} {C M0:Nat→Prop} {w0 w:World} {sz:Nat} {ρ:Nat→Nm} {E:Env} {H:Hp} {a:Act} {o:Oper} {x:Eff}
theorem rep_int' {M:Nat→Prop} {k:IntKind} {n:Int} {v:Value} (h:Rep w M (.v (.int k n)) v):v=.int k n:=by
 cases h with|v x h hw=>rfl
theorem Rep.norm {M:Nat→Prop} {x:D} {v:Value} (h:Rep w M x v):Rep w M (normD x) v:=by
 cases h with
 | nl k=>exact .nil k none 0 (by omega) (fun _=>rfl)
 | em k x c hm=>exact .nil k (some x) c hm (fun h=>by cases h)
 | v _ h1 h2=>exact .v _ h1 h2
 | nil k x c hm hx=>exact .nil k x c hm hx
 | list vs hc hm hM hb hk hv hr=>exact .list vs hc hm hM hb hk hv hr
 | ref vs hM hb hv hr=>exact .ref vs hM hb hv hr
 | clo ps hr=>exact .clo ps hr
 | hue u m h=>exact .hue u m h
theorem DsR.norm {M:Nat→Prop}:∀ {l:List D} {us:List Value},DsR w M l us→DsR w M (l.map normD) us
 | [],[],h=>h
 | x::l,u::us,h=>⟨Rep.norm h.1,DsR.norm h.2⟩
 | [],_::_,h=>h.elim
 | _::_,[],h=>h.elim
theorem nrmL_eq:∀ {l r:List D},nrmL l=some r→r=l.map normD
 | [],r,h=>by simp [nrmL] at h;subst h;rfl
 | x::l,r,h=>by
  simp only [nrmL] at h
  split at h
  ·rename_i r' hr
   have:=nrmL_eq hr
   subst this
   split at h<;>(injection h with h;subst h;rfl)
  ·cases h
theorem st_make (R:Rel C M0 w0 sz ρ E H a w) {t k:Nat} {ea:Bool} {zl:List D} {y u:Operand} {ik jk:IntKind} {l c:Int} (ht:TyOK P t (.sl k ea zl)) (ho:o.op=.makeSlice t y u) (he:ev (look E) y=some (.c (.at (.d (.v (.int ik l))))))
  (hz:ev (look E) u=some (.c (.at (.d (.v (.int jk c)))))) (hi:0≤l∧l≤c∧c≤1000000) {d:Nat} (hd:o.dst=some d) (hlt:d<sz) (hf:look H d=none) :
  StepOK P C M0 w0 sz E H o (.new d (.row k (List.replicate l.toNat (zl.map normD)) 0) (.c (.at (.osl d 0)))) a w:=by
 obtain ⟨e,he2,_,_,_,i,z,hi2,hsz,hzero,hzs,hzd,hby⟩:=ht.2.2.2
 have h1:=rep_int' (show Rep w (Mof M0 ρ H) (.v (.int ik l)) (a.eval y) from (ev_ok R he).1)
 have h2:=rep_int' (show Rep w (Mof M0 ρ H) (.v (.int jk c)) (a.eval u) from (ev_ok R hz).1)
 have hb:(i.bytes:Int)*c≤281474976710656:=by
  have:(i.bytes:Int)*c≤65536*1000000:=Int.mul_le_mul (by omega) hi.2.2 (by omega) (by omega)
  omega
 have hr:=run_make (P:=P) w t e i z he2 hi2 hzero ik jk l c hi.1 hi.2.1 hb (by omega)
 have hrun:(execOp a.eval o).run P w=.ok (.value (.slice (some ⟨w.heap.size,0,none⟩) l.toNat c.toNat)) (w.alloc (.cells (madeCells z.cells (c.toNat*i.size)) e)):=by
  simp [execOp,ho,h1,h2,hr]
 refine ok_run (ρ':=upd ρ d ⟨false,w.heap.size,c.toNat,l.toNat,0⟩) hrun ?_
 have hbl:Below w.heap.size w (w.alloc (.cells (madeCells z.cells (c.toNat*i.size)) e)):=(Below.refl _ _).alloc (Nat.le_refl _) _
 have hlen:∀ M:Nat→Prop,(zl.map normD).length=k:=fun M=>by have:=(hzd w M).length;rw [List.length_map,← this];simpa using hzs
 have R':=R.fresh (b:=.row k (List.replicate l.toNat (zl.map normD)) 0) (m:=⟨false,w.heap.size,c.toNat,l.toNat,0⟩) hf (.inl hlt) hbl.os hbl.tape hbl.output hbl.size (.inr (Nat.le_refl _)) (fun k hk=>hbl.block k hk) (fun _=>⟨Nat.le_refl _,by simp⟩)
  (fun h1 h2 h3=>⟨⟨fun x hx=>by rw [List.eq_of_mem_replicate hx];exact hlen (fun _=>False),by simp,fun h0=>by
    have h0:c.toNat=0:=h0
    rw [show l.toNat=0 by omega];rfl,rfl,rfl⟩,
   fun _=>⟨(madeCells z.cells (c.toNat*i.size)).toList,⟨e,by rw [heap_alloc_new]⟩,by simp;omega,by show c.toNat≤_;omega,by simp [size_madeCells,hsz],
    (List.replicate l.toNat z.cells.toList).flatten,(List.replicate (c.toNat-l.toNat) z.cells.toList).flatten,by
     rw [hsz,← hzs,made_list,← List.flatten_append,List.replicate_append_replicate]
     congr 2
     omega,DsR.replicate (DsR.norm (hzd _ _)) _⟩⟩) (by simp [Blk.names])
 rw [hd]
 refine R'.val (dst:=some d) (x:=.c (.at (.osl d 0))) (fun d' h=>by injection h with h;omega) ?_ (fun m hm => ?_)
 ·refine ⟨by rw [upd_same],rfl,by rw [upd_same];exact Nat.le_refl _,fun _=>⟨some ⟨w.heap.size,0,none⟩,?_,?_⟩⟩
  ·rw [upd_same]
  ·rw [upd_same];exact fun _=>rfl
 ·have:m=d:=by simpa [SV.names,SC.names,At.names] using hm
  rw [this,look_cons,if_pos rfl];rfl
theorem osl_val (R:Rel C M0 w0 sz ρ E H a w) {y:Operand} {n v k:Nat} {l:List (List D)} (he:ev (look E) y=some (.c (.at (.osl n v)))) (hb:look H n=some (.row k l v)) :
  ∃ x,a.eval y=.slice x l.length (ρ n).cap∧(0<(ρ n).cap→x=some ⟨(ρ n).b,0,none⟩)∧l.length=(ρ n).len∧(∀ e∈l,e.length=k)∧((ρ n).cap=0→l=[])∧(ρ n).own=false∧(ρ n).ver=v:=by
 obtain ⟨h1,h2,h3,h4⟩:=(ev_ok R he).1
 obtain ⟨k1,k2,k3,k4,k5⟩:=(R.blk n _ hb).1
 obtain ⟨x,e1,e2⟩:=h4 (by omega)
 exact ⟨x,by rw [e1,k2],e2,k2,k1,k3,h1,k4⟩
theorem st_indexRow (R:Rel C M0 w0 sz ρ E H a w) {t k n ver:Nat} {ea:Bool} {zl:List D} {l:List (List D)} {y z:Operand} {ik:IntKind} {i:Int} (ht:TyOK P t (.sl k ea zl)) (ho:o.op=.indexAddr t y z) (he:ev (look E) y=some (.c (.at (.osl n ver))))
  (hz:ev (look E) z=some (.c (.at (.d (.v (.int ik i)))))) (hb:look H n=some (.row k l ver)) (hi:0≤i∧i<l.length) {d:Nat} (hd:o.dst=some d) (hlt:d<sz) :
  StepOK P C M0 w0 sz E H o (.val (.c (.at (.rp n ver k i.toNat 0)))) a w:=by
 obtain ⟨e,he2,hsz,_,_⟩:=ht.2.2.2
 obtain ⟨x,e1,e2,e4,e5,e6,e7,e8⟩:=osl_val R he hb
 have h2:=rep_int' (show Rep w (Mof M0 ρ H) (.v (.int ik i)) (a.eval z) from (ev_ok R hz).1)
 have hc:0<(ρ n).cap:=by
  rcases Nat.eq_zero_or_pos (ρ n).cap with h|h
  ·have:=e6 h;subst this;simp at hi;omega
  ·exact h
 have hx:=e2 hc
 subst hx
 refine ok_val R (v:=.pointer (some ⟨(ρ n).b,i.toNat*k+0,none⟩)) ?_ hd hlt ⟨e7,rfl,by omega,fun _=>rfl⟩ (fun m hm=>(ev_ok R he).2 m (by simpa [SV.names,SC.names,At.names] using hm))
 simp [execOp,ho,e1,h2,Instr.indexAt,asIntOf,run_underlying_of he2,hi,hsz,add_plain]
theorem flat_get {α:Type} {k:Nat}:∀ {l:List (List α)} {i:Nat} {e:List α},(∀ x∈l,x.length=k)→l[i]? = some e→∀ j,j<k→l.flatten[i*k+j]? = e[j]?
 | [],i,e,_,h,j,hj=>by simp at h
 | x::l,0,e,hk,h,j,hj=>by
  simp at h
  subst h
  rw [List.flatten_cons,Nat.zero_mul,Nat.zero_add,List.getElem?_append_left (by rw [hk x (List.mem_cons_self ..)];exact hj)]
 | x::l,i+1,e,hk,h,j,hj=>by
  have hx:=hk x (List.mem_cons_self ..)
  rw [List.flatten_cons,List.getElem?_append_right (by rw [hx,Nat.add_mul];omega),hx,show (i+1)*k+j-k=i*k+j by rw [Nat.add_mul];omega]
  exact flat_get (fun y hy=>hk y (List.mem_cons_of_mem _ hy)) (by simpa using h) j hj
theorem DsR.get {M:Nat→Prop}:∀ {a:List D} {u:List Value},DsR w M a u→∀ (i:Nat) (x:D),a[i]? = some x→∃ v,u[i]? = some v∧Rep w M x v
 | [],[],_,i,x,h=>by simp at h
 | a::l,v::vs,h,0,x,hx=>by simp at hx;subst hx;exact ⟨v,rfl,h.1⟩
 | a::l,v::vs,h,i+1,x,hx=>by simpa using DsR.get h.2 i x (by simpa using hx)
 | [],_::_,h,_,_,_=>h.elim
 | _::_,[],h,_,_,_=>h.elim
theorem st_loadRow (R:Rel C M0 w0 sz ρ E H a w) {t:Nat} {td:TD} (ht:TyOK P t td) {y:Operand} {n ver k i off:Nat} {l:List (List D)} (ho:o.op=.load t y) (he:ev (look E) y=some (.c (.at (.rp n ver k i off))))
  (hb:look H n=some (.row k l ver)) {e:List D} (hl:l[i]? = some e) (hk:off+td.size≤e.length) {d:Nat} (hd:o.dst=some d) (hlt:d<sz) :
  StepOK P C M0 w0 sz E H o (.val (.c (match td.agg with|true=>.agg ((((e.map At.d).drop off).take td.size))|false=>.at ((e.map At.d)[off]?.getD default)))) a w:=by
 obtain ⟨⟨h1,h2,h3,h4⟩,_⟩:=ev_ok R he
 obtain ⟨⟨k1,k2,k3,k4,k5⟩,hreal⟩:=R.blk n _ hb
 have hv:a.eval y=.pointer (some ⟨(ρ n).b,i*k+off,none⟩):=h4 (by omega)
 have hc:0<(ρ n).cap:=by
  rcases Nat.eq_zero_or_pos (ρ n).cap with h|h
  ·have:=k3 h;subst this;simp at hl
  ·exact h
 obtain ⟨cs,hcs,c1,c2,c3,vs,rest,hvr,hD⟩:=hreal (by simpa [Blk.real] using hc)
 have hek:e.length=k:=k1 e (List.mem_of_getElem? hl)
 have hcell:∀ j (hj:off+j<e.length),∃ u,w.cell? ⟨(ρ n).b,i*k+off+j,none⟩=some u∧Rep w (Mof M0 ρ H) (e[off+j]'hj) u:=fun j hj=>by
  obtain ⟨u,hu,hr⟩:=hD.get (i*k+(off+j)) (e[off+j]'hj) (by rw [flat_get k1 hl _ (by omega)];simp [hj])
  refine ⟨u,?_,hr⟩
  have hlt:i*k+(off+j)<vs.length:=(List.getElem?_eq_some_iff.1 hu).1
  rw [cell_of hcs,hvr,Nat.add_assoc,List.getElem?_append_left hlt]
  exact hu
 cases ha:td.agg with
 | true =>
  simp only
  have hf:∀ j,∃ u,j<td.size→w.cell? ⟨(ρ n).b,i*k+off+j,none⟩=some u∧∀ hj:off+j<e.length,Rep w (Mof M0 ρ H) (e[off+j]'hj) u:=fun j=>by
   by_cases hj:j<td.size
   ·obtain ⟨u,h1,h2⟩:=hcell j (by omega)
    exact ⟨u,fun _=>⟨h1,fun _=>h2⟩⟩
   ·exact ⟨undef,fun h=>absurd h hj⟩
  obtain ⟨f,hf⟩:=Classical.axiomOfChoice hf
  refine ok_val R (v:=.agg (((List.range td.size).map f).toArray)) ?_ hd hlt ⟨_,rfl,AtsR.of_get ?_ ?_⟩ ?_
  ·have:=run_loadCells (P:=P) w ⟨(ρ n).b,i*k+off,none⟩ td.size f (fun j hj=>by rw [add_plain];exact (hf j hj).1)
   simp [execOp,ho,hv,Instr.loadAt,Instr.sureAddr,loadVar,ht.2.1,ha,ht.1,this]
  ·simp;omega
  ·intro j x u h1 h2
   rw [List.getElem?_take] at h1
   split at h1
   ·rename_i hj
    have hx:off+j<e.length:=by omega
    rw [List.getElem?_drop,List.getElem?_map,List.getElem?_eq_getElem hx] at h1
    simp at h1
    simp [List.getElem?_range hj] at h2
    subst h1 h2
    exact (hf j hj).2 hx
   ·cases h1
  ·intro m hm
   have:m∈namesA (e.map At.d):=namesA_sub (fun y hy=>List.mem_of_mem_drop (List.mem_of_mem_take hy)) m hm
   rw [names_map_d] at this
   cases this
 | false =>
  have hs1:td.size=1:=by cases td<;>simp [TD.agg] at ha<;>rfl
  have hx:off<e.length:=by omega
  simp only
  have he2:(e.map At.d)[off]?.getD default=At.d e[off]:=by simp [hx]
  rw [he2]
  obtain ⟨u,hu1,hu2⟩:=hcell 0 (by simpa using hx)
  refine ok_val R (v:=u) ?_ hd hlt hu2 (fun m hm=>by simp [SV.names,SC.names,At.names] at hm)
  rw [Nat.add_zero] at hu1
  simp [execOp,ho,hv,Instr.loadAt,Instr.sureAddr,loadVar,ht.2.1,ha,run_load,hu1]
theorem DsR.setL {M:Nat→Prop}:∀ (o:Nat) {a:List D} {v:List Value} {xs:List D} {us:List Value},DsR w M a v→DsR w M xs us→DsR w M (setL a o xs) (setL v o us)
 | o,a,v,[],[],h,_=>by cases o<;>cases a<;>cases v<;>first|exact h|exact h.elim
 | o,[],[],x::xs,u::us,h,_=>by simp only [Sx.setL];trivial
 | 0,a::l,v::vs,x::xs,u::us,h,k=>⟨k.1,DsR.setL 0 h.2 k.2⟩
 | o+1,a::l,v::vs,x::xs,u::us,h,k=>⟨h.1,DsR.setL o h.2 k⟩
 | _,[],_::_,_,_,h,_=>h.elim
 | _,_::_,[],_,_,h,_=>h.elim
 | _,_,_,[],_::_,_,k=>k.elim
 | _,_,_,_::_,[],_,k=>k.elim
theorem setL_nil {α:Type} (l:List α) (o:Nat):setL l o []=l:=by cases l<;>simp [setL]
theorem setL_app {α:Type}:∀ (a b:List α) (q:Nat) (x:List α),q+x.length≤a.length→setL (a++b) q x=setL a q x++b
 | a,b,q,[],_=>by rw [setL_nil,setL_nil]
 | [],b,q,x::xs,h=>by simp at h
 | c::a,b,0,x::xs,h=>by
  simp only [List.cons_append,setL]
  rw [setL_app a b 0 xs (by simp at h ⊢;omega)]
 | c::a,b,q+1,x::xs,h=>by
  simp only [List.cons_append,setL]
  rw [setL_app a b q (x::xs) (by simp at h ⊢;omega)]
theorem setL_skip {α:Type}:∀ (a b:List α) (q:Nat) (x:List α),setL (a++b) (a.length+q) x=a++setL b q x
 | [],b,q,x=>by simp
 | c::a,b,q,[]=>by rw [setL_nil,setL_nil]
 | c::a,b,q,x::xs=>by
  have:(c::a).length+q=(a.length+q)+1:=by simp;omega
  rw [this]
  simp only [List.cons_append,setL]
  rw [setL_skip a b q (x::xs)]
theorem flat_set {α:Type} {k:Nat}:∀ {l:List (List α)} {i:Nat} {e:List α} {off:Nat} {ds:List α},(∀ x∈l,x.length=k)→l[i]? = some e→off+ds.length≤k→(l.set i (setL e off ds)).flatten=setL l.flatten (i*k+off) ds
 | [],i,e,off,ds,_,h,_=>by simp at h
 | x::l,0,e,off,ds,hk,h,hd=>by
  simp at h
  subst h
  rw [List.set_cons_zero,List.flatten_cons,List.flatten_cons,Nat.zero_mul,Nat.zero_add,setL_app _ _ _ _ (by rw [hk x (List.mem_cons_self ..)];exact hd)]
 | x::l,i+1,e,off,ds,hk,h,hd=>by
  have hx:=hk x (List.mem_cons_self ..)
  rw [List.set_cons_succ,List.flatten_cons,List.flatten_cons,flat_set (fun y hy=>hk y (List.mem_cons_of_mem _ hy)) (by simpa using h) hd,
   show (i+1)*k+off=x.length+(i*k+off) by rw [hx,Nat.add_mul];omega,setL_skip]
theorem atsD_rel' {M:Nat→Prop}:∀ {l:List At} {r:List D} {us:List Value},atsD? l=some r→AtsR ρ w M l us→DsR w M r us
 | [],r,[],h,k=>by simp [atsD?] at h;subst h;trivial
 | [],r,_::_,h,k=>k.elim
 | .d y::l,r,[],h,k=>k.elim
 | .d y::l,r,u::us,h,k=>by
  simp only [atsD?] at h
  split at h
  ·rename_i r' hr'
   have h2:=atsD_rel' hr' k.2
   have h1:Rep w M (normD y) u:=Rep.norm k.1
   split at h<;>(injection h with h;subst h;exact ⟨h1,h2⟩)
  ·cases h
 | .ptr ..::l,r,us,h,_=>by simp [atsD?] at h
 | .osl ..::l,r,us,h,_=>by simp [atsD?] at h
 | .rp ..::l,r,us,h,_=>by simp [atsD?] at h
 | .ep ..::l,r,us,h,_=>by simp [atsD?] at h
 | .fn ..::l,r,us,h,_=>by simp [atsD?] at h
theorem st_storeRow (R:Rel C M0 w0 sz ρ E H a w) {t:Nat} {td:TD} (ht:TyOK P t td) {y z:Operand} {n ver k i off:Nat} {l:List (List D)} {s:SC} {ds e:List D} (ho:o.op=.store t y z) (he:ev (look E) y=some (.c (.at (.rp n ver k i off)))) (hz:ev (look E) z=some (.c s))
  (hb:look H n=some (.row k l ver)) (hds:atsD? (cellsC s)=some ds) (hl:l[i]? = some e) (hd:o.dst=none) (hs:ds.length=td.size) (hk:off+td.size≤e.length) :
  StepOK P C M0 w0 sz E H o (.put n (.row k (l.set i (setL e off ds)) ver)) a w:=by
 obtain ⟨⟨h1,h2,h3,h4⟩,_⟩:=ev_ok R he
 obtain ⟨hz1,hz2⟩:=ev_ok R hz
 obtain ⟨⟨k1,k2,k3,k4,k5⟩,hreal⟩:=R.blk n _ hb
 have hv:a.eval y=.pointer (some ⟨(ρ n).b,i*k+off,none⟩):=h4 (by omega)
 have hc:0<(ρ n).cap:=by
  rcases Nat.eq_zero_or_pos (ρ n).cap with h|h
  ·have:=k3 h;subst this;simp at hl
  ·exact h
 have hr:(Blk.row k l ver).real (ρ n)=true:=by simpa [Blk.real] using hc
 obtain ⟨cs,hcs,c1,c2,c3,vs,rest,hvr,hD⟩:=hreal hr
 have hmem:=List.mem_of_getElem? hl
 have hek:e.length=k:=k1 e hmem
 have hcz:=SCR.cells hz1
 have hDz:=atsD_rel' hds hcz
 have hus:(a.eval z).cells.toList.length=ds.length:=hDz.length
 have hflat:(i*k+off)+ds.length≤l.flatten.length:=by
  have hi:i<l.length:=(List.getElem?_eq_some_iff.1 hl).1
  have:∀ (l:List (List D)),(∀ x∈l,x.length=k)→l.flatten.length=l.length*k:=fun l=>by
   induction l with
   | nil=>simp
   | cons x l ih=>intro h;rw [List.flatten_cons,List.length_append,ih (fun y hy=>h y (List.mem_cons_of_mem _ hy)),h x (List.mem_cons_self ..)];simp [Nat.add_mul];omega
  rw [this l k1]
  have:(i+1)*k≤l.length*k:=Nat.mul_le_mul_right _ hi
  rw [Nat.add_mul] at this
  omega
 have hvl:=hD.length
 have hcl:(i*k+off)+ds.length≤cs.length:=by rw [hvr,List.length_append];omega
 obtain ⟨w',hrn,e1,e2,e3,e4,e5,e6,e7⟩:=run_storeOwn (P:=P) (a.eval z).cells.toList w cs (i*k+off) 0 hcs (AtsR.one hcz) (by omega)
 rw [Nat.add_zero] at e6
 have hrun:(execOp a.eval o).run P w=.ok .skip w':=by
  have hsz:(a.eval z).cells.size=td.size:=by rw [← hs,← hus];simp
  simp [execOp,ho,hv,Instr.storeAt,Instr.sureAddr,storeVar,ht.1,hsz,hrn]
 refine ok_skip (ρ':=ρ) hrun ?_
 have:apE o.dst (.put n (.row k (l.set i (setL e off ds)) ver)) E=E:=by simp [apE]
 rw [this,hd]
 refine R.put hb hr e1 e2 e3 e4 (.inr (Nat.le_of_eq e7.symm)) e5 e6 ⟨by simpa using c1,c2,by rw [setL_length];exact c3,setL vs (i*k+off) (a.eval z).cells.toList,rest,?_,?_⟩ ⟨fun x hx => ?_,by simpa using k2,fun h=>by omega,k4,k5⟩ (by simp [Blk.names])
 ·rw [hvr,setL_app _ _ _ _ (by omega)]
 ·rw [flat_set k1 hl (by omega)]
  exact DsR.setL _ hD hDz
 ·rcases List.mem_or_eq_of_mem_set hx with hx|hx
  ·exact k1 x hx
  ·subst hx;rw [setL_length];exact hek
theorem row_len (R:Rel C M0 w0 sz ρ E H a w) {n k v:Nat} {l:List (List D)} (hb:look H n=some (.row k l v)):wfV (.int .i64 l.length):=by
 obtain ⟨⟨k1,k2,k3,_⟩,hreal⟩:=R.blk n _ hb
 rcases Nat.eq_zero_or_pos (ρ n).cap with h|h
 ·have:=k3 h;subst this;exact ⟨by decide,by decide⟩
 ·obtain ⟨cs,_,c1,c2,_⟩:=hreal (by simpa [Blk.real] using h)
  exact ⟨by omega,by omega⟩
theorem st_lenRow (R:Rel C M0 w0 sz ρ E H a w) {c:Call} {y:Operand} {n v k ek:Nat} {ea:Bool} {zl:List D} {l:List (List D)} {t:Nat} (ht:TyOK P t (.sl ek ea zl)) (ho:o.op=.call c) (hc:c.callee=.builtin .len) (hts:c.argTypes[0]? = some t) (hargs:c.args.toList=[y])
  (he:ev (look E) y=some (.c (.at (.osl n v)))) (hb:look H n=some (.row k l v)) {d:Nat} (hd:o.dst=some d) (hlt:d<sz):StepOK P C M0 w0 sz E H o (.val (sV (.int .i64 l.length))) a w:=by
 obtain ⟨e,he2,_⟩:=ht.2.2.2
 obtain ⟨x,e1,_⟩:=osl_val R he hb
 refine ok_val R (v:=.int .i64 l.length) ?_ hd hlt (Rep.v _ rfl (row_len R hb)) (fun n hn=>by simp [sV,SV.names,SC.names,At.names] at hn)
 have hargs':c.args.map a.eval=#[a.eval y]:=by apply Array.ext';simp [hargs]
 have hlen:(Builtin.len_ c.argTypes o.type #[a.eval y]).run P w=.ok (.int .i64 l.length) w:=by
  have h0:(#[a.eval y])[0]? = some (a.eval y):=rfl
  simp only [Builtin.len_,hts,h0,Sem.run_bind]
  rw [run_underlying_of he2 w,Result.andThen_ok,e1]
  simp [goInt]
 simp only [execOp,ho,resolve,hc,Sem.run_bind,Sem.run_pure,Result.andThen_ok,invoke,builtin,hargs',hlen]
theorem st_lenNil (R:Rel C M0 w0 sz ρ E H a w) {c:Call} {y:Operand} {k ek:Nat} {ea:Bool} {zl:List D} {t:Nat} (ht:TyOK P t (.sl ek ea zl)) (ho:o.op=.call c) (hc:c.callee=.builtin .len) (hts:c.argTypes[0]? = some t) (hargs:c.args.toList=[y])
  (he:ev (look E) y=some (.c (.at (.d (.nil k))))) {d:Nat} (hd:o.dst=some d) (hlt:d<sz):StepOK P C M0 w0 sz E H o (.val (sV (.int .i64 0))) a w:=by
 obtain ⟨e,he2,_⟩:=ht.2.2.2
 have h1:Rep w (Mof M0 ρ H) (.nil k) (a.eval y):=(ev_ok R he).1
 have e1:a.eval y=.slice none 0 0:=by
  generalize a.eval y=u at h1
  cases h1;rfl
 refine ok_val R (v:=.int .i64 0) ?_ hd hlt (Rep.v _ rfl ⟨by decide,by decide⟩) (fun n hn=>by simp [sV,SV.names,SC.names,At.names] at hn)
 have hargs':c.args.map a.eval=#[a.eval y]:=by apply Array.ext';simp [hargs]
 have hlen:(Builtin.len_ c.argTypes o.type #[a.eval y]).run P w=.ok (.int .i64 0) w:=by
  have h0:(#[a.eval y])[0]? = some (a.eval y):=rfl
  simp only [Builtin.len_,hts,h0,Sem.run_bind]
  rw [run_underlying_of he2 w,Result.andThen_ok,e1]
  simp [goInt]
 simp only [execOp,ho,resolve,hc,Sem.run_bind,Sem.run_pure,Result.andThen_ok,invoke,builtin,hargs',hlen]
theorem st_lenEmp (R:Rel C M0 w0 sz ρ E H a w) {c:Call} {y:Operand} {k ek:Nat} {ea:Bool} {zl:List D} {t:Nat} (ht:TyOK P t (.sl ek ea zl)) (ho:o.op=.call c) (hc:c.callee=.builtin .len) (hts:c.argTypes[0]? = some t) (hargs:c.args.toList=[y])
  (he:ev (look E) y=some (.c (.at (.d (.emp k))))) {d:Nat} (hd:o.dst=some d) (hlt:d<sz):StepOK P C M0 w0 sz E H o (.val (sV (.int .i64 0))) a w:=by
 obtain ⟨e,he2,_⟩:=ht.2.2.2
 have h1:Rep w (Mof M0 ρ H) (.emp k) (a.eval y):=(ev_ok R he).1
 obtain ⟨x,c0,e1⟩:∃ x c0,a.eval y=.slice x 0 c0:=by
  generalize a.eval y=u at h1
  cases h1;exact ⟨_,_,rfl⟩
 refine ok_val R (v:=.int .i64 0) ?_ hd hlt (Rep.v _ rfl ⟨by decide,by decide⟩) (fun n hn=>by simp [sV,SV.names,SC.names,At.names] at hn)
 have hargs':c.args.map a.eval=#[a.eval y]:=by apply Array.ext';simp [hargs]
 have hlen:(Builtin.len_ c.argTypes o.type #[a.eval y]).run P w=.ok (.int .i64 0) w:=by
  have h0:(#[a.eval y])[0]? = some (a.eval y):=rfl
  simp only [Builtin.len_,hts,h0,Sem.run_bind]
  rw [run_underlying_of he2 w,Result.andThen_ok,e1]
  simp [goInt]
 simp only [execOp,ho,resolve,hc,Sem.run_bind,Sem.run_pure,Result.andThen_ok,invoke,builtin,hargs',hlen]
theorem st_nilRp (R:Rel C M0 w0 sz ρ E H a w) {y:Operand} {n v k i off:Nat} (ho:o.op=.nilCheck y) (he:ev (look E) y=some (.c (.at (.rp n v k i off)))) {l:List (List D)} {k':Nat} (hb:look H n=some (.row k' l v)) (h:(retD sz o.dst (.c (.at (.rp n v k i off)))).has x):StepOK P C M0 w0 sz E H o x a w:=by
 obtain ⟨d,hd,hlt,rfl⟩:=retD_has h
 obtain ⟨h1,h2⟩:=ev_ok R he
 obtain ⟨k1,k2,k3,k4,k5⟩:=(R.blk n _ hb).1
 have hv:a.eval y=.pointer (some ⟨(ρ n).b,i*k+off,none⟩):=h1.2.2.2 (by omega)
 refine ok_val R (v:=a.eval y) ?_ hd hlt h1 h2
 simp [execOp,ho,hv]
theorem st_fieldRp (R:Rel C M0 w0 sz ρ E H a w) {t:Nat} {n':Nat} {z:List D} {fs:List (Nat × Nat × Bool)} (ht:TyOK P t (.st n' z fs)) {y:Operand} {n v k j off i:Nat} {k':Nat} {l:List (List D)} (ho:o.op=.fieldAddr t y i)
  (he:ev (look E) y=some (.c (.at (.rp n v k j off)))) (hb:look H n=some (.row k' l v)) {fo fz:Nat} {fa:Bool} (hf:fs[i]? = some (fo,fz,fa)) (hz:fz≠0) (h:(retD sz o.dst (.c (.at (.rp n v k j (off+fo))))).has x):StepOK P C M0 w0 sz E H o x a w:=by
 obtain ⟨d,hd,hlt,rfl⟩:=retD_has h
 obtain ⟨h1,h2⟩:=ev_ok R he
 obtain ⟨k1,k2,k3,k4,k5⟩:=(R.blk n _ hb).1
 have hv:a.eval y=.pointer (some ⟨(ρ n).b,j*k+off,none⟩):=h1.2.2.2 (by omega)
 refine ok_val R (v:=.pointer (some ⟨(ρ n).b,j*k+off+fo,none⟩)) ?_ hd hlt ⟨h1.1,rfl,h1.2.2.1,fun _=>by rw [Nat.add_assoc]⟩ h2
 simp [execOp,ho,hv,run_fieldAt ht hf hz]
end
end Sx
end Go.Proofs.YtddbmpbihpkabaaGreat

namespace Go.Proofs.YtddbmpbihpkabaaGreat
open Go Go.RowKit
namespace Sx
section
variable {P:Program} {C M0:Nat→Prop} {w0 w:World} {sz:Nat} {ρ:Nat→Nm} {E:Env} {H:Hp} {a:Act} {o:Oper} {x:Eff}
theorem atsV_rel {M:Nat→Prop}:∀ {l:List At} {vs us:List Value},atsV? l=some vs→AtsR ρ w M l us→us=vs
 | [],vs,[],h,_=>by simp [atsV?] at h;exact h.symm ▸ rfl
 | .d (.v x)::l,vs,u::us,h,k=>by
  simp only [atsV?] at h
  split at h
  ·rename_i r hr
   injection h with h
   subst h
   have k1:Rep w M (.v x) u:=k.1
   cases k1
   rw [atsV_rel hr k.2]
  ·cases h
 | .d (.list _ _)::l,vs,us,h,_=>by simp [atsV?] at h
 | .ptr ..::l,vs,us,h,_=>by simp [atsV?] at h
 | .osl ..::l,vs,us,h,_=>by simp [atsV?] at h
 | .rp ..::l,vs,us,h,_=>by simp [atsV?] at h
 | .ep ..::l,vs,us,h,_=>by simp [atsV?] at h
 | .fn ..::l,vs,us,h,_=>by simp [atsV?] at h
 | [],_,_::_,_,k=>k.elim
 | _::_,_,[],_,k=>k.elim
theorem svV_rel {M:Nat→Prop} {s:SV} {v u:Value} (h:svV? s=some v) (k:SVR ρ w M s u):u=v:=by
 unfold svV? at h
 split at h
 ·injection h with h
  subst h
  have k:Rep w M (.v _) u:=k
  cases k
  rfl
 ·split at h
  ·rename_i r hr
   injection h with h
   subst h
   obtain ⟨us,rfl,k⟩:=k
   rw [atsV_rel hr k]
  ·cases h
 ·cases h
theorem sameK_eq {k k':IntKind} (h:sameK k k'=true):k=k':=by cases k<;>cases k'<;>first|rfl|(simp [sameK] at h)
theorem run_guard_int (op:BinOp) (t:Nat) (x y:Operand) (k k':IntKind) (m n:Int):(eqGuard op t x y (.int k m) (.int k' n)).run P w=.ok () w:=by
 unfold eqGuard
 cases op<;>rfl
theorem run_binI {op:BinOp} {t:Nat} {k:IntKind} {m n:Int} {v:Value} (h:binI op k m n=some v):(binOp op t (.int k m) (.int k n)).run P w=.ok v w∧v.oneCell'=true∧wfV v:=by
 cases op<;>simp only [binI,Option.some.injEq,reduceCtorEq] at h<;>subst h<;>refine ⟨?_,rfl,?_⟩<;>first|exact inK_wrap _ _|trivial|simp [binOp,Op.intArith,Op.intCmp,Op.intBits]
theorem st_pure (R:Rel C M0 w0 sz ρ E H a w) {v:Value} (hr:(execOp a.eval o).run P w=.ok (.value v) w) (hv:v.oneCell'=true) (hw:wfV v) {d:Nat} (hd:o.dst=some d) (hlt:d<sz):StepOK P C M0 w0 sz E H o (.val (sV v)) a w :=
 ok_val R hr hd hlt (Rep.v v hv hw) sV_names
theorem run_op_bin {op:BinOp} {t ty:Nat} {y z:Operand} {u v r:Value} (ho:o.op=.binOp op t y z ty) (hy:a.eval y=u) (hz:a.eval z=v) (h:(do eqGuard op t y z u v;binOp op t u v:Sem Value).run P w=.ok r w) :
  (execOp a.eval o).run P w=.ok (.value r) w:=by
 subst hy hz
 simp only [execOp,ho,Sem.run_bind,h,Result.andThen_ok,Sem.run_pure]
theorem run_bin_int {op:BinOp} {t:Nat} {y z:Operand} {k k':IntKind} {m n:Int} {r:Value} (h:(binOp op t (.int k m) (.int k' n)).run P w=.ok r w):(do eqGuard op t y z (.int k m) (.int k' n);binOp op t (.int k m) (.int k' n):Sem Value).run P w=.ok r w:=by
 simp only [Sem.run_bind,run_guard_int,Result.andThen_ok,h]
theorem Rep.len {M:Nat→Prop} {k:Nat} {l:List (List D)} {v:Value} (h:Rep w M (.list k l) v):wfV (.int .i64 l.length):=by
 cases h with
 | nil=>exact ⟨by decide,by decide⟩
 | list vs hc hm=>exact ⟨by omega,by omega⟩
theorem wf_tmod {k:IntKind} {m n:Int} (h:inK k m) (h':inK k n) (hn:n≠0):inK k (m.tmod n):=by
 have hb:(m.tmod n).natAbs≤m.natAbs:=by rw [Int.natAbs_tmod];exact Nat.mod_le _ _
 rcases Int.le_total 0 m with h0|h0
 ·have h1:=Int.tmod_nonneg n h0
  cases k<;>simp only [inK] at * <;> omega
 ·have h1:m.tmod n≤0:=by
   have:=Int.tmod_nonneg n (a := -m) (by omega)
   rw [Int.neg_tmod] at this
   omega
  cases k<;>simp only [inK] at * <;> omega
theorem wf_fdiv {k:IntKind} {m:Int} (e:Nat) (h:inK k m):inK k (m.fdiv (2 ^ e)):=by
 have hp:(0:Int)<2 ^ e:=Int.pow_pos (by decide)
 rw [Int.fdiv_eq_ediv_of_nonneg _ (by omega)]
 rcases Int.lt_or_le m 0 with h0|h0
 ·have h1:m≤m / 2 ^ e:=(Int.le_ediv_iff_mul_le hp).2 (by
   have:m*2 ^ e≤m*1:=Int.mul_le_mul_of_nonpos_left (by omega) (by omega)
   omega)
  have h2:=Int.ediv_neg_of_neg_of_pos h0 hp
  cases k<;>simp only [inK] at * <;> omega
 ·have h1:=Int.ediv_le_self (2 ^ e) h0
  have h2:=Int.ediv_nonneg h0 (Int.le_of_lt hp)
  cases k<;>simp only [inK] at * <;> omega
theorem svV_wf {M:Nat→Prop} {s:SV} {k:IntKind} {m:Int} {u:Value} (h:svV? s=some (.int k m)) (hs:SVR ρ w M s u):inK k m:=by
 unfold svV? at h
 split at h
 ·injection h with h
  subst h
  have hs:Rep w M (.v (.int k m)) u:=hs
  cases hs with
  | v x h hw=>exact hw
 ·split at h
  ·injection h with h;cases h
  ·cases h
 ·cases h
theorem run_quo {t:Nat} {k:IntKind} {m n:Int} (h:n≠0):(binOp .quo t (.int k m) (.int k n)).run P w=.ok (.int k (k.wrap (m.tdiv n))) w:=by simp [binOp,Op.intDiv,h]
theorem run_rem {t:Nat} {k:IntKind} {m n:Int} (h:n≠0):(binOp .rem t (.int k m) (.int k n)).run P w=.ok (.int k (m.tmod n)) w:=by simp [binOp,Op.intDiv,h]
theorem run_shl {t:Nat} {k k':IntKind} {m n:Int} (h:0≤n):(binOp .shl t (.int k m) (.int k' n)).run P w=.ok (.int k (k.wrap (m*2 ^ (min n.toNat k.bits)))) w:=by
 have:¬ n<0:=by omega
 simp [binOp,Op.shift,this]
theorem run_shr {t:Nat} {k k':IntKind} {m n:Int} (h:0≤n):(binOp .shr t (.int k m) (.int k' n)).run P w=.ok (.int k (m.fdiv (2 ^ (min n.toNat k.bits)))) w:=by
 have:¬ n<0:=by omega
 simp [binOp,Op.shift,this]
theorem run_bin_bool {op:BinOp} {t:Nat} {y z:Operand} {p q:Bool} {r:Value} (h:(binOp op t (.bool p) (.bool q)).run P w=.ok r w):(do eqGuard op t y z (.bool p) (.bool q);binOp op t (.bool p) (.bool q):Sem Value).run P w=.ok r w:=by
 have:(eqGuard op t y z (.bool p) (.bool q)).run P w=.ok () w:=by unfold eqGuard;cases op<;>rfl
 simp only [Sem.run_bind,this,Result.andThen_ok,h]
theorem st_len (R:Rel C M0 w0 sz ρ E H a w) {c:Call} {y:Operand} {k ek:Nat} {ea:Bool} {zl:List D} {l:List (List D)} {t:Nat} (ht:TyOK P t (.sl ek ea zl)) (ho:o.op=.call c) (hc:c.callee=.builtin .len) (hts:c.argTypes[0]? = some t) (hargs:c.args.toList=[y])
  (he:ev (look E) y=some (.c (.at (.d (.list k l))))) (h:(retD sz o.dst (sV (.int .i64 l.length))).has x):StepOK P C M0 w0 sz E H o x a w:=by
 obtain ⟨d,hd,hlt,rfl⟩:=retD_has h
 obtain ⟨e,he2,_⟩:=ht.2.2.2
 have h1:Rep w (Mof M0 ρ H) (.list k l) (a.eval y):=(ev_ok R he).1
 refine st_pure R (v:=.int .i64 l.length) ?_ rfl (h1.len) hd hlt
 have hargs':c.args.map a.eval=#[a.eval y]:=by apply Array.ext';simp [hargs]
 have hlen:(Builtin.len_ c.argTypes o.type #[a.eval y]).run P w=.ok (.int .i64 l.length) w:=by
  have h0:(#[a.eval y])[0]? = some (a.eval y):=rfl
  simp only [Builtin.len_,hts,h0,Sem.run_bind,run_underlying_of he2,Result.andThen_ok]
  generalize a.eval y=v at h1
  cases h1<;>simp [goInt]
 simp only [execOp,ho,resolve,hc,Sem.run_bind,Sem.run_pure,Result.andThen_ok,invoke,builtin,hargs',hlen]
theorem inK_max {k:IntKind} {a b:Int} (h:inK k a) (h':inK k b):inK k (maxI a b):=by unfold maxI;split<;>assumption
theorem inK_min {k:IntKind} {a b:Int} (h:inK k a) (h':inK k b):inK k (minI a b):=by unfold minI;split<;>assumption
theorem rep_int {M:Nat→Prop} {k:IntKind} {n:Int} {v:Value} (h:Rep w M (.v (.int k n)) v):v=.int k n∧inK k n:=by
 cases h with|v x h hw=>exact ⟨rfl,hw⟩
theorem st_builtin (R:Rel C M0 w0 sz ρ E H a w) {c:Call} {b:Builtin} (ho:o.op=.call c) (hc:c.callee=.builtin b) {v:Value} (hb:∀ ts t cs,(builtin b ts t cs (c.args.toList.map a.eval).toArray).run P w=.ok (.value v) w) (h1:v.oneCell'=true) (hw:wfV v)
  {d:Nat} (hd:o.dst=some d) (hlt:d<sz):StepOK P C M0 w0 sz E H o (.val (sV v)) a w:=by
 refine st_pure R ?_ h1 hw hd hlt
 have hargs:(c.args.map a.eval)=(c.args.toList.map a.eval).toArray:=by apply Array.ext';simp
 simp only [execOp,ho,resolve,hc,Sem.run_bind,Sem.run_pure,Result.andThen_ok,invoke,hargs,hb]
theorem st_index (R:Rel C M0 w0 sz ρ E H a w) {t k:Nat} {ea:Bool} {zl:List D} {l:List (List D)} {y z:Operand} {ik:IntKind} {i:Int} (ht:TyOK P t (.sl k ea zl)) (ho:o.op=.indexAddr t y z) (he:ev (look E) y=some (.c (.at (.d (.list k l)))))
  (hz:ev (look E) z=some (.c (.at (.d (.v (.int ik i)))))) (hi:0≤i∧i<l.length) {d:Nat} (hd:o.dst=some d) (hlt:d<sz):StepOK P C M0 w0 sz E H o (.val (.c (.at (.ep k l i.toNat 0)))) a w:=by
 obtain ⟨e,he2,hsz,_,_⟩:=ht.2.2.2
 have h1:Rep w (Mof M0 ρ H) (.list k l) (a.eval y):=(ev_ok R he).1
 have h2:Rep w (Mof M0 ρ H) (.v (.int ik i)) (a.eval z):=(ev_ok R hz).1
 generalize hyv:a.eval y=v at h1
 generalize hzv:a.eval z=u at h2
 cases h2
 cases h1 with
 | nil=>simp at hi;omega
 | @list b off cap _ _ vs hc hm hM hb hkk hcv hr =>
  refine ok_val R (v:=.pointer (some ⟨b,off+i.toNat*k+0,none⟩)) ?_ hd hlt ⟨b,off,rfl,cap,.list vs hc hm hM hb hkk hcv hr⟩ (fun n hn=>by simp [SV.names,SC.names,At.names] at hn)
  simp [execOp,ho,hyv,hzv,Instr.indexAt,asIntOf,run_underlying_of he2,hi,hsz,add_plain]
theorem st_indexArr (R:Rel C M0 w0 sz ρ E H a w) {t n ek len:Nat} {z:List D} {ea:Bool} {l:List At} {y u:Operand} {ik:IntKind} {i:Int} {s:SC} (ht:TyOK P t (.ar n z len ek ea)) (ho:o.op=.index t y u) (he:ev (look E) y=some (.c (.agg l)))
  (hz:ev (look E) u=some (.c (.at (.d (.v (.int ik i)))))) (hp:partA ea l (i.toNat*ek) ek=some s) (hi:0≤i∧i<len) {d:Nat} (hd:o.dst=some d) (hlt:d<sz):StepOK P C M0 w0 sz E H o (.val (.c s)) a w:=by
 obtain ⟨e,he2,hsz,hag⟩:=ht.2.2.2
 obtain ⟨⟨vs,hv,hR⟩,h2⟩:=ev_ok R he
 have h2':Rep w (Mof M0 ρ H) (.v (.int ik i)) (a.eval u):=(ev_ok R hz).1
 generalize hzv:a.eval u=uv at h2'
 cases h2'
 obtain ⟨v,hr,hs⟩:=run_part hag hsz hR hp w
 refine ok_val R (v:=v) ?_ hd hlt hs (fun m hm=>h2 m (partA_names hp m hm))
 simp [execOp,ho,hv,hzv,Instr.index,asIntOf,run_underlying_of he2,hi,hsz,hr]
theorem st_indexPtr (R:Rel C M0 w0 sz ρ E H a w) {t n' ek len:Nat} {z:List D} {ea:Bool} {n off:Nat} {y u:Operand} {ik:IntKind} {i:Int} (ht:TyOK P t (.ar n' z len ek ea)) (ho:o.op=.indexAddr t y u) (he:ev (look E) y=some (.c (.at (.ptr n off))))
  (hz:ev (look E) u=some (.c (.at (.d (.v (.int ik i)))))) (hi:0≤i∧i<len) {d:Nat} (hd:o.dst=some d) (hlt:d<sz):StepOK P C M0 w0 sz E H o (.val (.c (.at (.ptr n (off+i.toNat*ek))))) a w:=by
 obtain ⟨e,he2,hsz,hag⟩:=ht.2.2.2
 obtain ⟨h1,h2⟩:=ev_ok R he
 have hv:a.eval y=.pointer (some ⟨(ρ n).b,off,none⟩):=h1.2
 have h2':Rep w (Mof M0 ρ H) (.v (.int ik i)) (a.eval u):=(ev_ok R hz).1
 generalize hzv:a.eval u=uv at h2'
 cases h2'
 refine ok_val R (v:=.pointer (some ⟨(ρ n).b,off+i.toNat*ek,none⟩)) ?_ hd hlt ⟨h1.1,rfl⟩ h2
 simp [execOp,ho,hv,hzv,Instr.indexAt,Instr.sureAddr,asIntOf,run_underlying_of he2,hi,hsz,add_plain]
theorem st_indexEl (R:Rel C M0 w0 sz ρ E H a w) {t n' ek len:Nat} {z:List D} {ea:Bool} {k j off:Nat} {l:List (List D)} {y u:Operand} {ik:IntKind} {i:Int} (ht:TyOK P t (.ar n' z len ek ea)) (ho:o.op=.indexAddr t y u) (he:ev (look E) y=some (.c (.at (.ep k l j off))))
  (hz:ev (look E) u=some (.c (.at (.d (.v (.int ik i)))))) (hi:0≤i∧i<len) {d:Nat} (hd:o.dst=some d) (hlt:d<sz):StepOK P C M0 w0 sz E H o (.val (.c (.at (.ep k l j (off+i.toNat*ek))))) a w:=by
 obtain ⟨e,he2,hsz,hag⟩:=ht.2.2.2
 obtain ⟨⟨b,off0,hv,hrow⟩,h2⟩:=ev_ok R he
 have h2':Rep w (Mof M0 ρ H) (.v (.int ik i)) (a.eval u):=(ev_ok R hz).1
 generalize hzv:a.eval u=uv at h2'
 cases h2'
 refine ok_val R (v:=.pointer (some ⟨b,off0+j*k+(off+i.toNat*ek),none⟩)) ?_ hd hlt ⟨b,off0,rfl,hrow⟩ (fun n hn=>by simp [SV.names,SC.names,At.names] at hn)
 rw [← Nat.add_assoc]
 simp [execOp,ho,hv,hzv,Instr.indexAt,Instr.sureAddr,asIntOf,run_underlying_of he2,hi,hsz,add_plain]
theorem st_extract (R:Rel C M0 w0 sz ρ E H a w) {y:Operand} {i:Nat} {l r:List SC} {s:SC} (ho:o.op=.extract y i) (he:ev (look E) y=some (.tup l)) (hl:l.drop i=s::r) (h:(retD sz o.dst (.c s)).has x):StepOK P C M0 w0 sz E H o x a w:=by
 obtain ⟨d,hd,hlt,rfl⟩:=retD_has h
 obtain ⟨⟨vs,hv,hR⟩,h2⟩:=ev_ok R he
 have hs:l[i]? = some s:=by have:=congrArg (·[0]?) hl;simpa using this
 obtain ⟨v,h3,h4⟩:=hR.get i s hs
 refine ok_val R (v:=v) ?_ hd hlt h4 (fun m hm=>h2 m ?_)
 ·simp [execOp,ho,hv,Instr.extract,h3]
 ·simp only [SV.names,namesC,List.mem_flatMap]
  exact ⟨s,List.mem_of_getElem? hs,hm⟩
theorem st_un (R:Rel C M0 w0 sz ρ E H a w) {op:UnOp} {ty:Nat} {y:Operand} {v r:Value} (ho:o.op=.unOp op ty y) (he:ev (look E) y=some (.c (.at (.d (.v v))))) (hu:unD op v=some r) (h:(retD sz o.dst (sV r)).has x):StepOK P C M0 w0 sz E H o x a w:=by
 obtain ⟨d,hd,hlt,rfl⟩:=retD_has h
 have h2:Rep w (Mof M0 ρ H) (.v v) (a.eval y):=(ev_ok R he).1
 generalize hyv:a.eval y=u at h2
 cases h2
 unfold unD at hu
 split at hu
 ·injection hu with hu;subst hu
  exact st_pure R (by simp [execOp,ho,hyv,Op.unary,Op.intArith]) rfl (inK_wrap _ _) hd hlt
 ·injection hu with hu;subst hu
  exact st_pure R (by simp [execOp,ho,hyv,Op.unary]) rfl trivial hd hlt
 ·cases hu
theorem foldl_set:∀ (us:List Value) (off j:Nat) (cs:Array Value),((us.zipIdx j).foldl (fun cs (p:Value × Nat)=>cs.setIfInBounds (off+p.2) p.1) cs).toList=setL cs.toList (off+j) us
 | [],off,j,cs=>by cases h:cs.toList<;>simp [setL,h]
 | u::us,off,j,cs=>by
  rw [List.zipIdx_cons,List.foldl_cons,foldl_set us off (j+1),setL_toList]
  simp [Nat.add_assoc]
theorem fill_ok {fs:List (Nat × Nat × Bool)} {place:Nat→Option (Nat × Nat)} (hp:∀ i x,fs[i]? = some x→place i=some (x.1,x.2.1)) :
  ∀ (ps:List (Nat × Operand)) (zs:List At) (cs:Array Value) (l:List At),(∀ n∈namesA zs,(look H n).isSome=true)→Rel C M0 w0 sz ρ E H a w→AtsR ρ w (Mof M0 ρ H) zs cs.toList →
   stepV.buildA fs zs (ps.map (·.1)) (ps.map fun p=>ev (look E) p.2)=some l →
   ∃ cs',Instr.fill place cs (ps.map fun p=>(p.1,a.eval p.2))=some cs'∧AtsR ρ w (Mof M0 ρ H) l cs'.toList∧(∀ n∈namesA l,(look H n).isSome=true)
 | [],zs,cs,l,hn,R,hz,h=>by
  simp only [List.map_nil,stepV.buildA,Option.some.injEq] at h
  subst h
  exact ⟨cs,rfl,hz,hn⟩
 | (i,y)::ps,zs,cs,l,hn,R,hz,h=>by
  simp only [List.map_cons] at h ⊢
  cases hy:ev (look E) y with
  | none=>rw [hy] at h;simp [stepV.buildA] at h
  | some s =>
   cases s with
   | tup l=>rw [hy] at h;simp [stepV.buildA] at h
   | c s =>
    rw [hy] at h
    simp only [stepV.buildA] at h
    split at h
    ·rename_i fo fz fa hf
     split at h
     ·rename_i h1 h2
      have h1:(cellsC s).length=fz:=by simpa using h1
      have h2:fo+fz≤zs.length:=by simpa using h2
      obtain ⟨k1,k2⟩:=ev_ok R hy
      have kc:=SCR.cells k1
      have klen:=kc.length
      have kl:=hz.length
      have hsize:(a.eval y).cells.size=fz:=by rw [← h1,← klen];simp
      have hnew:AtsR ρ w (Mof M0 ρ H) (setL zs fo (cellsC s)) ((a.eval y).cells.zipIdx.foldl (fun cs (p:Value × Nat)=>cs.setIfInBounds (fo+p.2) p.1) cs).toList:=by
       have:=foldl_set (a.eval y).cells.toList fo 0 cs
       rw [Nat.add_zero] at this
       rw [← Array.foldl_toList,Array.toList_zipIdx,this]
       exact hz.setL fo kc
      have hnn:∀ n∈namesA (setL zs fo (cellsC s)),(look H n).isSome=true:=fun n hm=>by
       simp only [namesA,List.mem_flatMap] at hm
       obtain ⟨y',hy',hm⟩:=hm
       rcases setL_mem _ _ _ _ hy' with hy'|hy'
       ·exact hn n (by simp only [namesA,List.mem_flatMap];exact ⟨y',hy',hm⟩)
       ·refine k2 n ?_
        cases s with
        | «at» b=>simp only [cellsC,List.mem_singleton] at hy';subst hy';exact hm
        | agg q=>simp only [SV.names,SC.names,namesA,List.mem_flatMap];exact ⟨y',hy',hm⟩
      obtain ⟨cs',e1,e2,e3⟩:=fill_ok hp ps _ _ l hnn R hnew h
      refine ⟨cs',?_,e2,e3⟩
      have hcs:cs.size=zs.length:=by rw [← kl];simp
      simp only [Instr.fill,hp i _ hf]
      rw [if_neg (by simp only [hsize,ne_eq,not_true,decide_false,Bool.false_or,gt_iff_lt,decide_eq_true_eq];omega)]
      exact e1
     ·cases h
    ·cases h
end
end Sx
end Go.Proofs.YtddbmpbihpkabaaGreat

namespace Go.Proofs.YtddbmpbihpkabaaGreat
open Go Go.RowKit
namespace Sx
section
variable {P:Program} {C M0:Nat→Prop} {w0 w:World} {sz:Nat} {ρ:Nat→Nm} {E:Env} {H:Hp} {a:Act} {o:Oper} {x:Eff}
theorem run_places' {P:Program} (w:World):∀ (F:List Field) (fs:List (Nat × Nat × Bool)),F.length=fs.length →
  (∀ (i:Nat) (x:Nat × Nat × Bool),fs[i]? = some x→∃ f:Field,F[i]? = some f∧f.offset=x.1∧(∀ w,(sizeOf f.type).run P w=.ok x.2.1 w)∧(∀ w,(isAgg f.type).run P w=.ok x.2.2 w)) →
  (F.mapM (fun f=>do pure (f.offset,← sizeOf f.type):Field→Sem (Nat × Nat))).run P w=.ok (fs.map fun x=>(x.1,x.2.1)) w
 | [],[],_,_=>rfl
 | f::F,x::fs,hl,h=>by
  obtain ⟨f',h1,h2,h3,_⟩:=h 0 x rfl
  have h1:f=f':=by simpa using h1
  subst h1
  have ih:=run_places' (P:=P) w F fs (by simpa using hl) (fun i y hy=>by simpa using h (i+1) y (by simpa using hy))
  simp only [List.mapM_cons,Sem.run_bind,h3,Result.andThen_ok,Sem.run_pure,ih,List.map_cons,h2]
 | [],_::_,hl,_=>by simp at hl
 | _::_,[],hl,_=>by simp at hl
theorem st_build (R:Rel C M0 w0 sz ρ E H a w) {t n:Nat} {z:List D} {fs:List (Nat × Nat × Bool)} (ht:TyOK P t (.st n z fs)) {ps:Array (Nat × Operand)} (ho:o.op=.build t ps) {l:List At}
  (hb:stepV.buildA fs (z.map .d) (ps.toList.map (·.1)) (ps.toList.map fun p=>ev (look E) p.2)=some l) (h:(retD sz o.dst (.c (.agg l))).has x):StepOK P C M0 w0 sz E H o x a w:=by
 obtain ⟨d,hd,hlt,rfl⟩:=retD_has h
 obtain ⟨zv,hz,hD⟩:=ht.2.2.1
 obtain ⟨F,hF,hFl,hfs⟩:=ht.2.2.2
 have hpl:=run_places' (P:=P) w F.toList fs (by simpa using hFl) (by simpa using hfs)
 obtain ⟨cs',e1,e2,e3⟩:=fill_ok (place:=fun i=>(fs.map fun x=>(x.1,x.2.1)).toArray[i]?) (fs:=fs) (fun i x hx=>by simp [hx]) ps.toList (z.map .d) zv.cells l (by simp [names_map_d]) R (DsR.ats.1 (hD _ _)) hb
 refine ok_val R (v:=.agg cs') ?_ hd hlt ⟨cs'.toList,by simp,e2⟩ e3
 have hp:(ps.map fun (i,x)=>(i,a.eval x)).toList=ps.toList.map fun p=>(p.1,a.eval p.2):=by simp
 simp only [execOp,ho,Sem.run_bind,Instr.build,hz,Result.andThen_ok,run_underlying_of hF,Array.mapM_eq_mapM_toList,Sem.run_map,hpl,hp,e1,Sem.run_pure]
theorem st_buildArr (R:Rel C M0 w0 sz ρ E H a w) {t n len ek:Nat} {z:List D} {ea:Bool} (ht:TyOK P t (.ar n z len ek ea)) {ps:Array (Nat × Operand)} (ho:o.op=.build t ps) {l:List At}
  (hb:stepV.buildA ((List.range len).map fun i=>(i*ek,ek,ea)) (z.map .d) (ps.toList.map (·.1)) (ps.toList.map fun p=>ev (look E) p.2)=some l) (h:(retD sz o.dst (.c (.agg l))).has x):StepOK P C M0 w0 sz E H o x a w:=by
 obtain ⟨d,hd,hlt,rfl⟩:=retD_has h
 obtain ⟨zv,hz,hD⟩:=ht.2.2.1
 obtain ⟨e,he,hsz,_⟩:=ht.2.2.2
 obtain ⟨cs',e1,e2,e3⟩:=fill_ok (place:=fun i=>some (i*ek,ek)) (fs:=(List.range len).map fun i=>(i*ek,ek,ea)) (fun i x hx=>by
  rw [List.getElem?_map] at hx
  cases hr:(List.range len)[i]? with
  | none=>rw [hr] at hx;cases hx
  | some j =>
   rw [hr] at hx
   have:j=i:=by
    have:=List.getElem?_eq_some_iff.1 hr
    obtain ⟨h1,h2⟩:=this
    simpa using h2.symm
   subst this
   injection hx with hx
   subst hx
   rfl) ps.toList (z.map .d) zv.cells l (by simp [names_map_d]) R (DsR.ats.1 (hD _ _)) hb
 refine ok_val R (v:=.agg cs') ?_ hd hlt ⟨cs'.toList,by simp,e2⟩ e3
 have hp:(ps.map fun (i,x)=>(i,a.eval x)).toList=ps.toList.map fun p=>(p.1,a.eval p.2):=by simp
 simp only [execOp,ho,Sem.run_bind,Instr.build,hz,Result.andThen_ok,run_underlying_of he,hsz,hp,e1,Sem.run_pure]
theorem setL_eq {α:Type}:∀ (l:List α) (o:Nat) (xs:List α),o+xs.length≤l.length→setL l o xs=l.take o++xs++l.drop (o+xs.length)
 | l,o,[],_=>by cases l<;>simp [setL]
 | [],o,x::xs,h=>by simp at h
 | c::cs,0,x::xs,h=>by
  simp only [setL,setL_eq cs 0 xs (by simpa using h)]
  simp
 | c::cs,o+1,x::xs,h=>by
  simp only [setL,setL_eq cs o (x::xs) (by simp at h ⊢;omega)]
  rw [show o+1+(x::xs).length=(o+(x::xs).length)+1 by omega]
  simp
theorem flatten_get {α:Type} {k:Nat}:∀ {l:List (List α)},(∀ x∈l,x.length=k)→∀ (i j:Nat) (hi:i<l.length),j<k→l.flatten[i*k+j]? = (l[i])[j]?
 | [],_,i,j,hi,_=>by simp at hi
 | x::l,h,0,j,hi,hj=>by
  have:=h x (List.mem_cons_self ..)
  simp [List.getElem?_append_left (by omega:j<x.length)]
 | x::l,h,i+1,j,hi,hj=>by
  have hx:=h x (List.mem_cons_self ..)
  have ih:=flatten_get (l:=l) (fun y hy=>h y (List.mem_cons_of_mem _ hy)) i j (by simpa using hi) hj
  rw [List.flatten_cons,List.getElem?_append_right (by rw [hx,Nat.add_mul];omega)]
  rw [hx,show (i+1)*k+j-k=i*k+j by rw [Nat.add_mul];omega]
  simpa using ih
theorem flatten_len {α:Type} {k:Nat}:∀ {l:List (List α)},(∀ x∈l,x.length=k)→l.flatten.length=l.length*k
 | [],_=>by simp
 | x::l,h=>by
  rw [List.flatten_cons,List.length_append,h x (List.mem_cons_self ..),flatten_len fun y hy=>h y (List.mem_cons_of_mem _ hy),List.length_cons,Nat.add_mul]
  omega
theorem rep_of_row {M:Nat→Prop} {b off cap k:Nat} {l:List (List D)} {us:List Value} (hk:∀ x∈l,x.length=k) (hD:DsR w M l.flatten us) (hcell:∀ i,i<us.length→w.cell? ⟨b,off+i,none⟩=us[i]?)
  (hc:l.length≤cap) (hm:cap≤9223372036854775807) (hM:¬ M b) (hb:b<w.heap.size):Rep w M (.list k l) (.slice (some ⟨b,off,none⟩) l.length cap):=by
 have hlen:us.length=l.length*k:=by rw [hD.length,flatten_len hk]
 have hin:∀ i j,i<l.length→j<k→i*k+j<us.length:=fun i j hi hj=>by
  rw [hlen]
  have:(i+1)*k≤l.length*k:=Nat.mul_le_mul_right _ hi
  rw [Nat.add_mul] at this
  omega
 refine .list (fun i j=>us.getD (i*k+j) undef) hc hm hM hb hk (fun i j hi hj => ?_) fun i j hi hj => ?_
 ·have h1:=hin i j hi hj
  rw [Nat.add_assoc,hcell _ h1]
  simp [List.getElem?_eq_getElem h1]
 ·have hj':j<k:=by rw [← hk l[i] (List.getElem_mem hi)];exact hj
  have hf:=flatten_get hk i j hi hj'
  rw [List.getElem?_eq_getElem hj] at hf
  obtain ⟨u,hu,hr⟩:=hD.get _ _ hf
  have:us.getD (i*k+j) undef=u:=by rw [List.getD_eq_getElem?_getD,hu];rfl
  rw [this]
  exact hr
theorem fill_list {ek:Nat} (R:Rel C M0 w0 sz ρ E H a w):∀ (ps:List (Nat × Operand)) (j:Nat) (cs:Array Value) (l:List (List D)),stepV.buildL ek j (ps.map (·.1)) (ps.map fun p=>ev (look E) p.2)=some l→(j+l.length)*ek≤cs.size →
  ∃ (cs':Array Value) (us:List Value),Instr.fill (fun i=>some (i*ek,ek)) cs (ps.map fun p=>(p.1,a.eval p.2))=some cs'∧cs'.toList=cs.toList.take (j*ek)++us++cs.toList.drop ((j+l.length)*ek)∧DsR w (Mof M0 ρ H) l.flatten us∧us.length=l.length*ek∧∀ x∈l,x.length=ek
 | [],j,cs,l,h,hsz=>by
  simp only [List.map_nil,stepV.buildL,Option.some.injEq] at h
  subst h
  exact ⟨cs,[],rfl,by simp,trivial,by simp,by simp⟩
 | (i,y)::ps,j,cs,l,h,hsz=>by
  simp only [List.map_cons] at h
  cases hy:ev (look E) y with
  | none=>rw [hy] at h;simp [stepV.buildL] at h
  | some s =>
   cases s with
   | tup l=>rw [hy] at h;simp [stepV.buildL] at h
   | c s =>
    rw [hy] at h
    simp only [stepV.buildL] at h
    split at h
    ·rename_i d h1 h2 h3
     split at h
     ·rename_i r hr
      injection h with h
      subst h
      have hij:i=j:=by simpa using h1
      subst hij
      have h3:(cellsC s).length=ek:=by simpa using h3
      have kc:=SCR.cells (ev_ok R hy).1
      have kD:=atsD_rel' h2 kc
      have klen:=kc.length
      simp only [List.length_cons] at hsz
      have hmul:(i+(r.length+1))*ek=i*ek+ek+r.length*ek:=by rw [Nat.add_mul,Nat.add_mul];omega
      have hys:(a.eval y).cells.toList.length=ek:=by rw [klen,h3]
      have hsize:(a.eval y).cells.size=ek:=by simpa using hys
      have hset:((a.eval y).cells.zipIdx.foldl (fun cs (p:Value × Nat)=>cs.setIfInBounds (i*ek+p.2) p.1) cs).toList=cs.toList.take (i*ek)++(a.eval y).cells.toList++cs.toList.drop (i*ek+ek):=by
       have:=foldl_set (a.eval y).cells.toList (i*ek) 0 cs
       rw [Nat.add_zero] at this
       rw [← Array.foldl_toList,Array.toList_zipIdx,this,setL_eq _ _ _ (by rw [hys];simp;omega),hys]
      have hsz2:((a.eval y).cells.zipIdx.foldl (fun cs (p:Value × Nat)=>cs.setIfInBounds (i*ek+p.2) p.1) cs).size=cs.size:=by
       have:=congrArg List.length hset
       simp only [List.length_append,List.length_take,List.length_drop,Array.length_toList] at this
       rw [this,hsize];omega
      obtain ⟨cs',us,e1,e2,e3,e4,e5⟩:=fill_list R ps (i+1) _ r hr (by rw [hsz2];rw [show i+1+r.length=i+(r.length+1) by omega];exact hsz)
      refine ⟨cs',(a.eval y).cells.toList++us,?_,?_,?_,?_,?_⟩
      ·simp only [List.map_cons,Instr.fill]
       rw [if_neg (by simp only [hsize,ne_eq,not_true,decide_false,Bool.false_or,gt_iff_lt,decide_eq_true_eq];omega)]
       exact e1
      ·have l1:(cs.toList.take (i*ek)++(a.eval y).cells.toList).length=(i+1)*ek:=by
        rw [List.length_append,List.length_take,hys,Array.length_toList,Nat.add_mul];omega
       rw [e2,hset,show (i+1)*ek=(cs.toList.take (i*ek)++(a.eval y).cells.toList).length from l1.symm,List.take_left]
       rw [List.drop_append,l1,show (i+1+r.length)*ek-(i+1)*ek=r.length*ek by rw [Nat.add_mul (i+1)];omega]
       rw [List.drop_eq_nil_of_le (by rw [l1,Nat.add_mul (i+1)];omega),List.drop_drop]
       simp only [List.nil_append,List.append_assoc,List.length_cons]
       rw [show i*ek+ek+r.length*ek=(i+(r.length+1))*ek from hmul.symm]
      ·exact kD.append e3
      ·rw [List.length_append,hys,e4,List.length_cons,Nat.add_mul];omega
      ·intro x hx
       rcases List.mem_cons.1 hx with rfl|hx
       ·have:=DsR.length kD;rw [← this,klen,h3]
       ·exact e5 x hx
     ·cases h
    ·cases h
theorem st_buildSlice (R:Rel C M0 w0 sz ρ E H a w) {t len ek:Nat} {ea:Bool} {zl:List D} (ht:TyOK P t (.sl ek ea zl)) {ps:Array (Nat × Operand)} (ho:o.op=.buildSlice t len ps) {l:List (List D)}
  (hb:stepV.buildL ek 0 (ps.toList.map (·.1)) (ps.toList.map fun p=>ev (look E) p.2)=some l) (hl:l.length=len) (h1:1≤len) (h2:1≤ek) (h3:len*ek≤16777216) (h:(retD sz o.dst (sD (.list ek l))).has x):StepOK P C M0 w0 sz E H o x a w:=by
 obtain ⟨d,hd,hlt,rfl⟩:=retD_has h
 obtain ⟨e,he,hsz,_,⟨z,hz,hzs⟩,_⟩:=ht.2.2.2
 subst hl
 obtain ⟨cs',us,e1,e2,e3,e4,e5⟩:=fill_list R ps.toList 0 ((Array.range (l.length*ek)).map (z.cells[· % z.cells.size]!)) l hb (by simp)
 have e2:cs'.toList=us:=by
  rw [e2]
  simp
 have hp:(ps.map fun (i,x)=>(i,a.eval x)).toList=ps.toList.map fun p=>(p.1,a.eval p.2):=by simp
 have hpos:¬ l.length*ek=0:=by
  have:=Nat.mul_pos (show 0<l.length by omega) (show 0<ek by omega);omega
 have hrun:(execOp a.eval o).run P w=.ok (.value (.slice (some ⟨w.heap.size,0,none⟩) l.length l.length)) (w.alloc (.cells cs' e)):=by
  have hsm:¬ l.length*ek > 2 ^ 24:=by omega
  simp only [execOp,ho,Sem.run_bind,Instr.buildSlice,run_underlying_of he,hsz,Result.andThen_ok,if_neg hsm,if_neg hpos,hz,Sem.run_pure,hp,e1,newRow,run_newObj_alloc]
 have hbl:Below w.heap.size w (w.alloc (.cells cs' e)):=(Below.refl _ _).alloc (Nat.le_refl _) _
 have hMlt:∀ b,Mof M0 ρ H b→b<w.heap.size:=fun b hb=>by
  rcases hb with hb|⟨n,x,hn,hr,rfl⟩
  ·exact Nat.lt_of_lt_of_le (R.out b hb) R.below.size
  ·exact R.hi n x hn hr
 refine ok_run (x:=.val (sD (.list ek l))) hrun ((R.grow hbl (.inr (Nat.le_refl _))).val (fun d' h=>by rw [hd] at h;injection h with h;omega) ?_ (fun n hn=>by simp [sD,SV.names,SC.names,At.names] at hn))
 refine rep_of_row e5 (e3.mono (.of_below hbl) fun _ _ h=>h) (fun i hi => ?_) (Nat.le_refl _) ?_ (fun hm=>by have:=hMlt _ hm;omega) (by simp)
 ·rw [Nat.zero_add]
  have:(w.alloc (.cells cs' e)).cell? ⟨w.heap.size,i,none⟩=cs'[i]? := by simp
  rw [this,← e2];simp
 ·have:l.length≤l.length*ek:=Nat.le_mul_of_pos_right _ (by omega)
  omega
theorem st_buildRow (R:Rel C M0 w0 sz ρ E H a w) {t len ek:Nat} {ea:Bool} {zl:List D} (ht:TyOK P t (.sl ek ea zl)) {ps:Array (Nat × Operand)} (ho:o.op=.buildSlice t len ps) {l:List (List D)}
  (hb:stepV.buildL ek 0 (ps.toList.map (·.1)) (ps.toList.map fun p=>ev (look E) p.2)=some l) (hl:l.length=len) (h1:1≤len) (h2:1≤ek) (h3:len*ek≤16777216) {d:Nat} (hd:o.dst=some d) (hlt:d<sz) (hf:look H d=none) :
  StepOK P C M0 w0 sz E H o (.new d (.row ek l 0) (.c (.at (.osl d 0)))) a w:=by
 obtain ⟨e,he,hsz,_,⟨z,hz,hzs⟩,_⟩:=ht.2.2.2
 subst hl
 obtain ⟨cs',us,e1,e2,e3,e4,e5⟩:=fill_list R ps.toList 0 ((Array.range (l.length*ek)).map (z.cells[· % z.cells.size]!)) l hb (by simp)
 have e2:cs'.toList=us:=by
  rw [e2]
  simp
 have hp:(ps.map fun (i,x)=>(i,a.eval x)).toList=ps.toList.map fun p=>(p.1,a.eval p.2):=by simp
 have hpos:¬ l.length*ek=0:=by
  have:=Nat.mul_pos (show 0<l.length by omega) (show 0<ek by omega);omega
 have hrun:(execOp a.eval o).run P w=.ok (.value (.slice (some ⟨w.heap.size,0,none⟩) l.length l.length)) (w.alloc (.cells cs' e)):=by
  have hsm:¬ l.length*ek > 2 ^ 24:=by omega
  simp only [execOp,ho,Sem.run_bind,Instr.buildSlice,run_underlying_of he,hsz,Result.andThen_ok,if_neg hsm,if_neg hpos,hz,Sem.run_pure,hp,e1,newRow,run_newObj_alloc]
 have hbl:Below w.heap.size w (w.alloc (.cells cs' e)):=(Below.refl _ _).alloc (Nat.le_refl _) _
 have hll:l.length≤l.length*ek:=Nat.le_mul_of_pos_right _ (by omega)
 refine ok_run (ρ':=upd ρ d ⟨false,w.heap.size,l.length,l.length,0⟩) hrun ?_
 have R':=R.fresh (b:=.row ek l 0) (m:=⟨false,w.heap.size,l.length,l.length,0⟩) hf (.inl hlt) hbl.os hbl.tape hbl.output hbl.size (.inr (Nat.le_refl _)) (fun k hk=>hbl.block k hk) (fun _=>⟨Nat.le_refl _,by simp⟩)
  (fun q1 q2 q3=>⟨⟨e5,rfl,fun h0=>by
    have h0:l.length=0:=h0
    omega,rfl,rfl⟩,
   fun _=>⟨cs'.toList,⟨e,by rw [heap_alloc_new]⟩,by show l.length≤l.length;omega,by show l.length≤_;omega,by rw [e2,e4],
    us,[],by rw [e2,List.append_nil],e3.mono q1 q2⟩⟩) (by simp [Blk.names])
 rw [hd]
 refine R'.val (dst:=some d) (x:=.c (.at (.osl d 0))) (fun d' h=>by injection h with h;omega) ?_ (fun m hm => ?_)
 ·refine ⟨by rw [upd_same],rfl,by rw [upd_same];exact Nat.le_refl _,fun _=>⟨some ⟨w.heap.size,0,none⟩,?_,?_⟩⟩
  ·rw [upd_same]
  ·rw [upd_same];exact fun _=>rfl
 ·have:m=d:=by simpa [SV.names,SC.names,At.names] using hm
  rw [this,look_cons,if_pos rfl];rfl
end
end Sx
end Go.Proofs.YtddbmpbihpkabaaGreat
