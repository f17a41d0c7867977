import Derived.Test.YtddbmpbihpkabaaGreatGLGPartsAE
set_option linter.all false
namespace Go.Proofs.YtddbmpbihpkabaaGreat
open Go Go.RowKit
namespace Sx
section
variable {P:Program} {C M0:Nat→Prop} {w0 w:World} {sz:Nat} {ρ:Nat→Nm} {E:Env} {H:Hp} {a:Act} {o:Oper} {x:Eff} {Γ:Cfg}
theorem Rep.one {M:Nat→Prop} {d:D} {v:Value} (h:Rep w M d v):v.oneCell'=true:=At.oneCell (ρ:=fun _=>default) (a:=.d d) h
theorem DsR.one {M:Nat→Prop}:∀ {l:List D} {us:List Value},DsR w M l us→∀ u∈us,u.oneCell'=true
 | [],[],_,u,hu=>by cases hu
 | d::l,v::us,h,u,hu=>by
  rcases List.mem_cons.1 hu with rfl|hu
  ·exact Rep.one h.1
  ·exact DsR.one h.2 u hu
 | [],_::_,h,_,_=>h.elim
 | _::_,[],h,_,_=>h.elim
theorem DsR.of_get {M:Nat→Prop}:∀ {l:List D} {us:List Value},l.length=us.length→(∀ (i:Nat) (x:D) (u:Value),l[i]? = some x→us[i]? = some u→Rep w M x u)→DsR w M l us
 | [],[],_,_=>trivial
 | x::l,u::us,h,k=>⟨k 0 x u rfl rfl,DsR.of_get (by simpa using h) fun i y v h1 h2=>k (i+1) y v (by simpa using h1) (by simpa using h2)⟩
 | [],_::_,h,_=>by simp at h
 | _::_,[],h,_=>by simp at h
theorem src_list {M:Nat→Prop} {k tx e':Nat} (hk:P.underlying tx=some (.slice e')) {l:List (List D)} {u:Value} (h:Rep w M (.list k l) u):∃ news,Src P k tx u l.length news w∧DsR w M l.flatten news∧(∀ e∈l,e.length=k):=by
 cases h with
 | nil k x c hm =>
  refine ⟨[],?_,trivial,by simp⟩
  cases x with
  | none=>exact Src.ofNil w hk c
  | some ad=>exact Src.ofSlice w hk ad 0 c [] (by simp) (by simp) (by simp)
 | @list b off cap k l vs hc hm hM hb hkk hv hr =>
  rcases Nat.eq_zero_or_pos k with hk0|hk0
  ·subst hk0
   have hf:l.flatten=[]:=List.eq_nil_of_length_eq_zero (by rw [flatten_len hkk];simp)
   exact ⟨[],Src.ofSlice w hk _ _ _ [] (by simp) (by simp) (by simp),by rw [hf];trivial,hkk⟩
  have hdm:∀ p,p<l.length*k→p / k<l.length∧p % k<k∧p / k*k+p % k=p:=fun p hp=>⟨Nat.div_lt_of_lt_mul (by rw [Nat.mul_comm];exact hp),Nat.mod_lt _ hk0,by rw [Nat.mul_comm];exact Nat.div_add_mod p k⟩
  have hD:DsR w M l.flatten ((List.range (l.length*k)).map fun p=>vs (p / k) (p % k)):=by
   refine DsR.of_get (by rw [flatten_len hkk];simp) fun i y u h1 h2 => ?_
   have hi:i<l.length*k:=by have:=(List.getElem?_eq_some_iff.1 h2).1;simpa using this
   obtain ⟨d1,d2,d3⟩:=hdm i hi
   have hj:i % k<l[i / k].length:=by rw [hkk _ (List.getElem_mem d1)];exact d2
   have e1:=flatten_get hkk (i / k) (i % k) d1 d2
   rw [d3,h1,List.getElem?_eq_getElem hj] at e1
   injection e1 with e1
   subst e1
   rw [List.getElem?_map,List.getElem?_range hi] at h2
   simp at h2
   subst h2
   exact hr _ _ d1 hj
  refine ⟨_,Src.ofSlice w hk _ _ _ _ (by simp) (fun j u hj => ?_) hD.one,hD,hkk⟩
  have hi:j<l.length*k:=by have:=(List.getElem?_eq_some_iff.1 hj).1;simpa using this
  obtain ⟨d1,d2,d3⟩:=hdm j hi
  rw [List.getElem?_map,List.getElem?_range hi] at hj
  simp at hj
  subst hj
  rw [add_plain,← hv _ _ d1 d2,Nat.add_assoc,d3]
theorem src_ok (R:Rel C M0 w0 sz ρ E H a w) {h:Nat→Option Blk} (hh:∀ n b,h n=some b→look H n=some b) {k tx:Nat} {kx:Nat} {ea:Bool} {zl:List D} (htx:TyOK P tx (.sl kx ea zl)) {s:SV} {l:List (List D)} {u:Value} (hs:srcL k h s=some l) (hu:SVR ρ w (Mof M0 ρ H) s u) :
  ∃ news,Src P k tx u l.length news w∧DsR w (Mof M0 ρ H) l.flatten news∧(∀ e∈l,e.length=k):=by
 obtain ⟨e',hk,_⟩:=htx.2.2.2
 unfold srcL at hs
 split at hs
 ·rename_i k' l'
  split at hs
  ·rename_i hkk
   injection hs with hs;subst hs
   have hkk:k'=k:=by simpa using hkk
   subst hkk
   exact src_list hk hu
  ·cases hs
 ·injection hs with hs;subst hs
  have hu:Rep w (Mof M0 ρ H) (.nil _) u:=hu
  cases hu
  exact ⟨[],Src.ofNil w hk 0,trivial,by simp⟩
 ·injection hs with hs;subst hs
  have hu:Rep w (Mof M0 ρ H) (.emp _) u:=hu
  cases hu with
  | em _ x c hm=>exact ⟨[],Src.ofSlice w hk x 0 c [] (by simp) (by simp) (by simp),trivial,by simp⟩
 ·injection hs with hs;subst hs
  have hu:Rep w (Mof M0 ρ H) (.v (.slice none 0 0)) u:=hu
  cases hu
  exact ⟨[],Src.ofNil w hk 0,trivial,by simp⟩
 ·rename_i n v
  split at hs
  ·rename_i k' l' v' hb
   split at hs
   ·rename_i hv hkk
    injection hs with hs;subst hs
    have hkk:k'=k:=by simpa using hkk
    have hv:v=v':=by simpa using hv
    subst hkk hv
    obtain ⟨e1,e2,e3,e4⟩:=hu
    obtain ⟨⟨k1,k2,k3,k4,k5⟩,hreal⟩:=R.blk n _ (hh _ _ hb)
    obtain ⟨z,rfl,hz⟩:=e4 (by omega)
    rw [← k2]
    rcases Nat.eq_zero_or_pos (ρ n).cap with h0|h0
    ·have:=k3 h0
     subst this
     refine ⟨[],?_,trivial,by simp⟩
     cases z with
     | none=>exact Src.ofNil w hk _
     | some ad=>exact Src.ofSlice w hk ad 0 _ [] (by simp) (by simp) (by simp)
    ·obtain ⟨cs,hcs,c1,c2,c3,vs,rest,hvr,hD⟩:=hreal (by simpa [Blk.real] using h0)
     rw [hz h0]
     refine ⟨vs,Src.ofSlice w hk _ _ _ vs (by rw [hD.length,flatten_len k1]) (fun j u hj => ?_) hD.one,hD,k1⟩
     rw [add_plain,Nat.zero_add,cell_of hcs,hvr,List.getElem?_append_left (List.getElem?_eq_some_iff.1 hj).1]
     exact hj
   ·cases hs
  ·cases hs
 ·cases hs
theorem run_append_zero {t tx ty e:Nat} {i:TypeInfo} (ht:P.underlying t=some (.slice e)) (hi:P.info? e=some i) {base:Option Addr} {sLen sCap:Nat} (hle:sLen≤sCap) {u:Value} (hs:Src P i.size tx u 0 [] w) :
  (Builtin.append_ #[t,tx] ty #[.slice base sLen sCap,u]).run P w=.ok (.slice base sLen sCap) w:=by
 rcases hs.kind with ⟨e',hk⟩|hk<;>cases base<;>simp [Builtin.append_,run_underlying ht,run_underlying hk,sizeOf,typeInfo,hi,hs.len,hle,hs.cells,storeCells]
theorem exec_append {c:Call} {s y:Operand} {t tx:Nat} (ho:o.op=.call c) (hc:c.callee=.builtin .append) (hts:c.argTypes=#[t,tx]) (hargs:c.args.toList=[s,y]) {v:Value} {w':World} (hr:(Builtin.append_ #[t,tx] o.type #[a.eval s,a.eval y]).run P w=.ok v w') :
  (execOp a.eval o).run P w=.ok (.value v) w':=by
 have hargs':c.args.map a.eval=#[a.eval s,a.eval y]:=by apply Array.ext';simp [hargs]
 simp only [execOp,ho,resolve,hc,Sem.run_bind,Sem.run_pure,Result.andThen_ok,invoke,builtin,hargs',hts,hr]
theorem growfits {need old bytes:Nat} (h:old<need) (h1:need≤1000000) (hb:bytes≤65536):Builtin.nextslicecap need old*bytes≤281474976710656 :=
 growslice_fits h (by have:=Nat.mul_le_mul h1 hb;omega)
theorem grown_row {M:Nat→Prop} {k:Nat} {e:TypeId} {z:Value} {l xs:List (List D)} {olds news:List Value} {old:Nat} (hz:z.cells.size=k) (h1:DsR w M l.flatten olds) (h2:DsR w M xs.flatten news) (k1:∀ e∈l,e.length=k) (k2:∀ e∈xs,e.length=k)
  (hlt:(l++xs).length≤1000000):∃ cs:List Value,w.drew.alloc (.cells ((olds++news).toArray++Builtin.zeroCells z.cells (grownCap w (l.length+xs.length) old e-(l.length+xs.length))) e)=w.drew.alloc (.cells cs.toArray e) ∧
   BlkC ρ w M cs (.row k (l++xs) 0) ⟨false,w.heap.size,grownCap w (l.length+xs.length) old e,(l++xs).length,0⟩:=by
 have hge:=grownCap_ge w (l.length+xs.length) old e
 have hle:=grownCap_le_maxLen w (l.length+xs.length) old e (by simp only [maxLen];simp at hlt;omega)
 refine ⟨(olds++news)++(Builtin.zeroCells z.cells (grownCap w (l.length+xs.length) old e-(l.length+xs.length))).toList,?_,by simpa using hge,?_,?_,olds++news,_,rfl,?_⟩
 ·congr 2
  apply Array.ext'
  simp
 ·simp only [maxLen] at hle;exact hle
 ·simp only [List.length_append,Array.length_toList,size_zeroCells,hz,h1.length,h2.length,flatten_len k1,flatten_len k2,← Nat.add_mul]
  congr 1
  omega
 ·rw [List.flatten_append]
  exact h1.append h2
theorem below_drew_alloc (w:World) (x:Obj):Below w.heap.size w (w.drew.alloc x) :=
 (⟨rfl,rfl,rfl,Nat.le_refl _,fun _ _=>rfl⟩:Below w.heap.size w w.drew).trans ((Below.refl w.heap.size w.drew).alloc (Nat.le_refl _) _)
theorem st_appendNil (R:Rel C M0 w0 sz ρ E H a w) {h:Nat→Option Blk} (hh:∀ n b,h n=some b→look H n=some b) {c:Call} {s y:Operand} {t tx k kx:Nat} {ea ex:Bool} {zl zx:List D} (ht:TyOK P t (.sl k ea zl)) (htx:TyOK P tx (.sl kx ex zx))
  (ho:o.op=.call c) (hc:c.callee=.builtin .append) (hts:c.argTypes=#[t,tx]) (hargs:c.args.toList=[s,y]) {ss sy:SV} (hs:ev (look E) s=some ss) (hn:nilS ss=true) (hy:ev (look E) y=some sy) {xs:List (List D)} (hx:srcL k h sy=some xs) (hlen:xs.length≤1000000)
  {d:Nat} (hd:o.dst=some d) (hlt:d<sz) :
  (look H d=none→StepOK P C M0 w0 sz E H o (.new d (.row k xs 0) (.c (.at (.osl d 0)))) a w)∧StepOK P C M0 w0 sz E H o (.val (sD (.list k xs))) a w:=by
 obtain ⟨e,he,_,_,_,i,z,hi,hsz,hzero,hzs,_,hby⟩:=ht.2.2.2
 have hsv:a.eval s=.slice none 0 0:=by
  have h1:=(ev_ok R hs).1
  unfold nilS at hn
  split at hn
  ·have h1:Rep w (Mof M0 ρ H) (.nil _) (a.eval s):=h1
   generalize a.eval s=u at h1
   cases h1;rfl
  ·have h1:Rep w (Mof M0 ρ H) (.v (.slice none 0 0)) (a.eval s):=h1
   generalize a.eval s=u at h1
   cases h1;rfl
  ·cases hn
 obtain ⟨news,hS,hD,hk⟩:=src_ok R hh htx hx (ev_ok R hy).1
 rcases Nat.eq_zero_or_pos xs.length with h0|h0
 ·have hx0:xs=[]:=List.eq_nil_of_length_eq_zero h0
  subst hx0
  have hnil:news=[]:=List.eq_nil_of_length_eq_zero (by rw [hD.length];rfl)
  subst hnil
  have hr:=exec_append (P:=P) (w:=w) (a:=a) ho hc hts hargs (by rw [hsv];exact run_append_zero (P:=P) (ty:=o.type) he hi (base:=none) (Nat.le_refl 0) (by rw [hsz];exact hS))
  refine ⟨fun hf => ?_,?_⟩
  ·refine ok_run (ρ':=upd ρ d ⟨false,0,0,0,0⟩) hr ?_
   have R':=R.fresh (b:=.row k [] 0) (m:=⟨false,0,0,0,0⟩) hf (.inl hlt) rfl rfl rfl (Nat.le_refl _) (.inr (Nat.le_refl _)) (fun _ _=>rfl) (fun h=>by simp [Blk.real] at h)
    (fun _ _ _=>⟨⟨by simp,rfl,fun _=>rfl,rfl,rfl⟩,fun h=>by simp [Blk.real] at h⟩) (by simp [Blk.names])
   rw [hd]
   refine R'.val (dst:=some d) (x:=.c (.at (.osl d 0))) (fun d' h=>by injection h with h;omega) ?_ (fun m hm => ?_)
   ·exact ⟨by rw [upd_same],rfl,by rw [upd_same];exact Nat.le_refl _,fun _=>⟨none,by rw [upd_same],fun h=>by rw [upd_same] at h;exact absurd h (Nat.lt_irrefl _)⟩⟩
   ·have:m=d:=by simpa [SV.names,SC.names,At.names] using hm
    rw [this,look_cons,if_pos rfl];rfl
  ·exact ok_val R hr hd hlt (show Rep _ _ (.list k []) _ from .nil k none 0 (by omega) (fun _=>rfl)) (fun n hn=>by simp [sD,SV.names,SC.names,At.names] at hn)
 ·have hg:=run_append_grow_src (P:=P) w t tx o.type e i z he hi hzero none 0 0 [] (run_firstCells_none w.drew i.size 0 0 0) (a.eval y) xs.length news (by rw [hsz];exact hS) (by omega) (by omega) (growfits (by omega) (by omega) hby)
  obtain ⟨cs,hcs,hC⟩:=grown_row (ρ:=ρ) (M:=Mof M0 ρ H) (k:=k) (e:=e) (l:=[]) (xs:=xs) (olds:=[]) (old:=0) hzs (show DsR w _ [] [] from trivial) hD (by simp) hk (by simpa using hlen)
  simp only [List.length_nil] at hcs hC
  rw [hcs] at hg
  have hr:=exec_append (P:=P) (w:=w) (a:=a) ho hc hts hargs (by rw [hsv];exact hg)
  have hbl:Below w.heap.size w (w.drew.alloc (.cells cs.toArray e)):=below_drew_alloc w _
  have hnew:(w.drew.alloc (.cells cs.toArray e)).heap[w.heap.size]? = some (.cells cs.toArray e (0,0)):=heap_alloc_new w.drew _
  have hge:=grownCap_ge w (0+xs.length) 0 e
  have hMl:=R.Mlt
  refine ⟨fun hf => ?_,?_⟩
  ·refine ok_run (ρ':=upd ρ d ⟨false,w.heap.size,grownCap w (0+xs.length) 0 e,xs.length,0⟩) hr ?_
   have R':=R.fresh (b:=.row k xs 0) (m:=⟨false,w.heap.size,grownCap w (0+xs.length) 0 e,xs.length,0⟩) hf (.inl hlt) hbl.os hbl.tape hbl.output hbl.size (.inr (Nat.le_succ _)) (fun k hk=>hbl.block k hk) (fun _=>⟨Nat.le_refl _,by simp⟩)
    (fun h1 h2 h3=>⟨⟨hk,rfl,fun h=>absurd h (by show ¬ grownCap w (0+xs.length) 0 e=0;omega),rfl,rfl⟩,fun _=>⟨cs,⟨e,hnew⟩,(hC.mono h1 h2).rename (fun n hn=>by simp [Blk.names] at hn)⟩⟩) (by simp [Blk.names])
   rw [hd]
   refine R'.val (dst:=some d) (x:=.c (.at (.osl d 0))) (fun d' h=>by injection h with h;omega) ?_ (fun m hm => ?_)
   ·refine ⟨by rw [upd_same],rfl,by rw [upd_same];exact Nat.le_refl _,fun _=>⟨_,?_,fun _=>by rw [upd_same]⟩⟩
    rw [upd_same,Nat.zero_add]
   ·have:m=d:=by simpa [SV.names,SC.names,At.names] using hm
    rw [this,look_cons,if_pos rfl];rfl
  ·refine ok_run (ρ':=ρ) hr ((R.grow hbl (.inr (Nat.le_succ _))).val (fun d' h=>by rw [hd] at h;injection h with h;omega) ?_ (fun n hn=>by simp [sD,SV.names,SC.names,At.names] at hn))
   obtain ⟨c1,c2,c3,vs,rest,c4,c5⟩:=hC.mono (Holds.of_below hbl) (fun _ _ h=>h)
   rw [Nat.zero_add]
   refine rep_of_row hk c5 (fun i hi => ?_) (by simpa using hge) (by rw [Nat.zero_add] at c2;exact c2) (fun hm=>by have:=hMl _ hm;omega) (by simp)
   rw [Nat.zero_add]
   have:(w.drew.alloc (.cells cs.toArray e)).cell? ⟨w.heap.size,i,none⟩=cs[i]? := cell_of ⟨e,hnew⟩ i
   rw [this,c4,List.getElem?_append_left hi]
theorem hue_row {w:World} {M n:Nat→Prop} {b off cap k:Nat} {l:List (List D)} {len:Nat} (h:Rep w M (.list k (l.map (evc n))) (.slice (some ⟨b,off,none⟩) len cap)) (hl:∀ e∈l,flatL e=true∧e≠[]) (hne:l≠[]) (hn:¬ n b) (he:Ev n w) {u:Bool} (hf:u=true→∃ cs,CellsAt w b cs):Hue w M u n (.list k l) (.slice (some ⟨b,off,none⟩) len cap):=by
 have hlen:(l.map (evc n)).length=l.length:=List.length_map ..
 have hfv:∀ {e:List D} {j:Nat} (hj:j<e.length),flatL e=true→∃ x,e[j]=.v x:=by
  intro e
  induction e with
  | nil=>intro j hj;cases hj
  | cons a e ih =>
   intro j hj hf
   cases a<;>simp only [flatL] at hf<;>try (cases hf;done)
   cases j with
   | zero=>exact ⟨_,rfl⟩
   | succ j=>exact ih (by simpa using hj) hf
 generalize hd:D.list k (l.map (evc n))=d at h
 generalize hv:Value.slice (some ⟨b,off,none⟩) len cap=v at h
 cases h with
 | nil k' x c hm hx =>
  injection hd with _ e
  exact absurd (List.map_eq_nil_iff.1 e) hne
 | v x h hw=>cases hd
 | nl k=>cases hd
 | em k x c hm=>cases hd
 | ref vs hM hb hv hr=>cases hd
 | clo ps hr=>cases hd
 | hue u n h=>cases hd
 | @list b' off' cap' k' l' vs hc hm hM hb hk hv' hr =>
  injection hd with e1 e2
  subst e1 e2
  injection hv with e1 e2 e3
  injection e1 with e1
  injection e1 with e1 e4
  subst e1 e2 e3 e4
  rw [hlen]
  have hkk:∀ e∈l,e.length=k:=fun e he=>by
   have:=hk (evc n e) (List.mem_map_of_mem he)
   have h2:(evc n e).length=e.length:=by cases e<;>rfl
   omega
  refine .list vs (by omega) hm hM hn hb hf hkk (fun i j hi hj=>hv' i j (by omega) hj) fun i j hi hj => ?_
  have he':=he
  have he:=hl l[i] (List.getElem_mem hi)
  have hei:(l.map (evc n))[i]'(by omega)=evc n l[i]:=List.getElem_map ..
  have hj2:j<((l.map (evc n))[i]'(by omega)).length:=by
   rw [hei]
   have h2:(evc n l[i]).length=l[i].length:=by cases l[i]<;>rfl
   omega
  have h1:=hr i j (by omega) hj2
  obtain ⟨x,hx⟩:=hfv hj he.1
  rw [hx]
  have hcell:((l.map (evc n))[i]'(by omega))[j]=if j=0 then .hue true n (.v x) else .v x:=by
   simp only [hei]
   generalize hq:l[i]=q at *
   cases q with
   | nil=>cases hj
   | cons a q =>
    cases j with
    | zero=>simp only [List.getElem_cons_zero] at hx;subst hx;rfl
    | succ j=>simp only [List.getElem_cons_succ] at hx;simp [evc,hx]
  rw [hcell] at h1
  by_cases h0:j=0
  ·rw [if_pos h0] at h1
   cases h1 with
   | hue u n h=>cases h with|v _ hn h hw=>exact .v _ hn h hw
  ·rw [if_neg h0] at h1
   cases h1 with
   | v _ h1 h2=>exact .v _ he' h1 h2
theorem st_appendHue (R:Rel C M0 w0 sz ρ E H a w) {h:Nat→Option Blk} (hh:∀ n b,h n=some b→look H n=some b) {c:Call} {s y:Operand} {t tx k kx:Nat} {n:Nat→Prop} {ea ex:Bool} {zl zx:List D} (ht:TyOK P t (.sl k ea zl)) (htx:TyOK P tx (.sl kx ex zx))
  (ho:o.op=.call c) (hc:c.callee=.builtin .append) (hts:c.argTypes=#[t,tx]) (hargs:c.args.toList=[s,y]) {sy:SV} (hsv:∃ x,a.eval s=.slice x 0 0) (hy:ev (look E) y=some sy) {xs l:List (List D)} (hx:srcL k h sy=some xs) (hlen:xs.length≤1000000) (hH:HueR n xs l)
  {d:Nat} (hd:o.dst=some d) (hlt:d<sz):StepOK P C M0 w0 sz E H o (.val (sD (.hue true n (.list k l)))) a w:=by
 obtain ⟨e,he,_,_,_,i,z,hi,hsz,hzero,hzs,_,hby⟩:=ht.2.2.2
 obtain ⟨base,hsv⟩:=hsv
 obtain ⟨news,hS,hD,hk⟩:=src_ok R hh htx hx (ev_ok R hy).1
 obtain ⟨hxl,hlf⟩:=hH
 rcases Nat.eq_zero_or_pos xs.length with h0|h0
 ·have hx0:xs=[]:=List.eq_nil_of_length_eq_zero h0
  have hl0:l=[]:=by rw [hx0] at hxl;exact List.map_eq_nil_iff.1 hxl.symm
  subst hx0 hl0
  have hnil:news=[]:=List.eq_nil_of_length_eq_zero (by rw [hD.length];rfl)
  subst hnil
  have hr:=exec_append (P:=P) (w:=w) (a:=a) ho hc hts hargs (by rw [hsv];exact run_append_zero (P:=P) (ty:=o.type) he hi (base:=base) (Nat.le_refl 0) (by rw [hsz];exact hS))
  exact ok_val R hr hd hlt (show Rep _ _ (.hue true n (.list k [])) _ from .hue true n (.nil k base 0 (by omega) (fun _=>rfl))) (fun n hn=>by simp [sD,SV.names,SC.names,At.names] at hn)
 ·have hfc:(Builtin.firstCells i.size 0 (.slice base 0 0)).run P w.drew=.ok #[] w.drew:=by
   cases base with
   | none=>exact run_firstCells_none w.drew i.size 0 0 0
   | some ad=>exact run_firstCells_some w.drew i.size 0 ad 0 0 [] (by simp) (by simp)
  have hg:=run_append_grow_src (P:=P) w t tx o.type e i z he hi hzero base 0 0 [] hfc (a.eval y) xs.length news (by rw [hsz];exact hS) (by omega) (by omega) (growfits (by omega) (by omega) hby)
  obtain ⟨cs,hcs,hC⟩:=grown_row (ρ:=ρ) (M:=Mof M0 ρ H) (k:=k) (e:=e) (l:=[]) (xs:=xs) (olds:=[]) (old:=0) hzs (show DsR w _ [] [] from trivial) hD (by simp) hk (by simpa using hlen)
  simp only [List.length_nil] at hcs hC
  rw [hcs] at hg
  have hr:=exec_append (P:=P) (w:=w) (a:=a) ho hc hts hargs (by rw [hsv];exact hg)
  have hbl:Below w.heap.size w (w.drew.alloc (.cells cs.toArray e)):=below_drew_alloc w _
  have hnew:(w.drew.alloc (.cells cs.toArray e)).heap[w.heap.size]? = some (.cells cs.toArray e (0,0)):=heap_alloc_new w.drew _
  have hge:=grownCap_ge w (0+xs.length) 0 e
  have hMl:=R.Mlt
  have hnw:Ev n w:=by
   have hlp:0<l.length:=by rw [hxl,List.length_map] at h0;exact h0
   have hel:=hlf l[0] (List.getElem_mem hlp)
   have hfl:xs.flatten≠[]∧∃ x r,xs.flatten=.hue true n x::r:=by
    match l,hlp,hel with
    | q::l',_,hel =>
     match q,hel with
     | [],hel=>exact absurd rfl hel.2
     | a'::q',hel=>rw [hxl];exact ⟨by simp [evc],a',_,rfl⟩
   obtain ⟨_,x,r,hfx⟩:=hfl
   match l,hlp,hel,hxl with
   | q::l',_,hel,hxl =>
    match q,hel with
    | [],hel=>exact absurd rfl hel.2
    | a'::q',hel =>
     have hD':=hD
     rw [hxl] at hD'
     simp only [List.map_cons,evc,List.flatten_cons,List.cons_append] at hD'
     cases hq:news with
     | nil=>rw [hq] at hD';exact hD'.elim
     | cons u us =>
      rw [hq] at hD'
      have h1:=hD'.1
      have hv:∃ y,a'=.v y:=by
       have:=hel.1
       simp only [List.getElem_cons_zero] at this
       cases a'<;>simp only [flatL] at this<;>first|exact ⟨_,rfl⟩|(cases this;done)
      obtain ⟨y,rfl⟩:=hv
      cases h1 with
      | hue u n h =>
       cases h with
       | v x hn h hw=>exact hn
  refine ok_run (ρ':=ρ) hr ((R.grow hbl (.inr (Nat.le_succ _))).val (fun d' h=>by rw [hd] at h;injection h with h;omega) ?_ (fun n hn=>by simp [sD,SV.names,SC.names,At.names] at hn))
  obtain ⟨c1,c2,c3,vs,rest,c4,c5⟩:=hC.mono (Holds.of_below hbl) (fun _ _ h=>h)
  rw [Nat.zero_add]
  have hrep:Rep (w.drew.alloc (.cells cs.toArray e)) (Mof M0 ρ H) (.list k xs) (.slice (some ⟨w.heap.size,0,none⟩) xs.length (grownCap w (0+xs.length) 0 e)):=by
   refine rep_of_row hk c5 (fun i hi => ?_) (by simpa using hge) (by rw [Nat.zero_add] at c2 ⊢;exact c2) (fun hm=>by have:=hMl _ hm;omega) (by simp)
   rw [Nat.zero_add]
   have:(w.drew.alloc (.cells cs.toArray e)).cell? ⟨w.heap.size,i,none⟩=cs[i]? := cell_of ⟨e,hnew⟩ i
   rw [this,c4,List.getElem?_append_left hi]
  rw [Nat.zero_add] at hrep
  subst hxl
  exact .hue true n (hue_row hrep hlf (fun e=>by subst e;cases h0) (fun h=>Nat.lt_irrefl _ (hnw _ h)) (fun b h=>Nat.lt_of_lt_of_le (hnw b h) hbl.size) fun _=>⟨cs,e,hnew⟩)
theorem row_data {M M':Nat→Prop} {m:Nm} {k v:Nat} {l:List (List D)} {u:Value} (hb:BlkR ρ w M m (.row k l v)) (hu:∃ x,u=.slice x m.len m.cap∧(0<m.cap→x=some ⟨m.b,0,none⟩)) (hM:∀ b,b<w.heap.size→M' b→M b) (hnot:0<m.cap→¬ M' m.b)
  (hlt:0<m.cap→m.b<w.heap.size):Rep w M' (.list k l) u:=by
 obtain ⟨⟨k1,k2,k3,k4,k5⟩,hreal⟩:=hb
 obtain ⟨x,rfl,hx⟩:=hu
 rw [← k2]
 rcases Nat.eq_zero_or_pos m.cap with h0|h0
 ·have:=k3 h0
  subst this
  exact .nil k x _ (by omega) (fun _=>h0)
 ·obtain ⟨cs,hcs,c1,c2,c3,vs,rest,c4,c5⟩:=hreal (by simpa [Blk.real] using h0)
  rw [hx h0]
  refine rep_of_row k1 (c5.mono (.refl _ w) hM) (fun i hi => ?_) c1 c2 (hnot h0) (hlt h0)
  rw [Nat.zero_add,cell_of hcs,c4,List.getElem?_append_left hi]
theorem row_append (R:Rel C M0 w0 sz ρ E H a w) {h:Nat→Option Blk} (hh:∀ n b,h n=some b→look H n=some b) {c:Call} {s y:Operand} {t tx k kx n v:Nat} {ea ex:Bool} {zl zx:List D} (ht:TyOK P t (.sl k ea zl)) (htx:TyOK P tx (.sl kx ex zx))
  (ho:o.op=.call c) (hc:c.callee=.builtin .append) (hts:c.argTypes=#[t,tx]) (hargs:c.args.toList=[s,y]) (hs:ev (look E) s=some (.c (.at (.osl n v)))) {l:List (List D)} (hb:look H n=some (.row k l v)) {sy:SV} (hy:ev (look E) y=some sy) {xs:List (List D)} (hx:srcL k h sy=some xs) (hlen:(l++xs).length≤1000000) :
  ∃ w' u m,(execOp a.eval o).run P w=.ok (.value u) w'∧m.ver=v+1∧m.own=false∧Rel C M0 w0 sz (upd ρ n m) E ((n,.row k (l++xs) (v+1))::H) a w'∧(∃ x,u=.slice x m.len m.cap∧(0<m.cap→x=some ⟨m.b,0,none⟩)):=by
 obtain ⟨e,he,_,_,_,i,z,hi,hsz,hzero,hzs,_,hby⟩:=ht.2.2.2
 obtain ⟨x,e1,e2,e3,e4,e5,e6,e7⟩:=osl_val R hs hb
 obtain ⟨news,hS,hD,hk⟩:=src_ok R hh htx hx (ev_ok R hy).1
 have hB:=R.blk n _ hb
 obtain ⟨⟨k1,k2,k3,k4,k5⟩,hreal⟩:=id hB
 have hkk:∀ z∈l++xs,z.length=k:=fun z hz=>by
  rcases List.mem_append.1 hz with hz|hz
  ·exact k1 z hz
  ·exact hk z hz
 have hll:(l++xs).length=l.length+xs.length:=List.length_append ..
 have rl:∀ l v,0<(ρ n).cap→(Blk.row k l v).real (ρ n)=true:=fun l v h=>by simpa [Blk.real] using h
 have lr:∀ l v m,(Blk.row k l v).real m=true→0<m.cap:=fun l v m h=>by simpa [Blk.real] using h
 have hlate:∀ b cap len,Later (ρ n) ⟨false,b,cap,len,v+1⟩:=fun b cap len=>.inr ⟨e6,rfl,by show (ρ n).ver<v+1;omega⟩
 rcases Nat.eq_zero_or_pos xs.length with h0|h0
 ·have hx0:xs=[]:=List.eq_nil_of_length_eq_zero h0
  subst hx0
  have hnil:news=[]:=List.eq_nil_of_length_eq_zero (by rw [hD.length];rfl)
  subst hnil
  have hle:l.length≤(ρ n).cap:=by
   rcases Nat.eq_zero_or_pos (ρ n).cap with h|h
   ·rw [k3 h];exact Nat.zero_le _
   ·obtain ⟨_,_,c1,_⟩:=hreal (rl l v h);exact c1
  have hr:=exec_append (P:=P) (w:=w) (a:=a) ho hc hts hargs (by rw [e1];exact run_append_zero (P:=P) (ty:=o.type) he hi (base:=x) hle (by rw [hsz];exact hS))
  refine ⟨w,_,⟨false,(ρ n).b,(ρ n).cap,l.length,v+1⟩,hr,rfl,rfl,?_,x,rfl,e2⟩
  refine R.known hb (hlate _ _ _) rfl rfl rfl (Nat.le_refl _) (.inr (Nat.le_refl _)) (fun _ _ _=>rfl) (fun h=>.inl ⟨rl l v (lr _ (v+1) ⟨false,(ρ n).b,(ρ n).cap,l.length,v+1⟩ h),rfl⟩) (fun h1 h2=>⟨⟨by simpa using k1,by simp,fun h=>by simpa using k3 h,rfl,rfl⟩,fun hr => ?_⟩) (by simp [Blk.names])
  obtain ⟨cs,hcs,c1,c2,c3,vs,rest,c4,c5⟩:=hreal (rl l v (lr _ (v+1) ⟨false,(ρ n).b,(ρ n).cap,l.length,v+1⟩ hr))
  exact ⟨cs,hcs,by simpa using c1,c2,c3,vs,rest,c4,by simpa using c5.mono h1 h2⟩
 by_cases hroom:l.length+xs.length≤(ρ n).cap
 ·have hc0:0<(ρ n).cap:=by omega
  obtain ⟨cs,hcs,c1,c2,c3,vs,rest,c4,c5⟩:=hreal (rl l v hc0)
  have hxx:=e2 hc0
  subst hxx
  have hvl:vs.length=l.length*k:=by rw [c5.length,flatten_len k1]
  have hnl:news.length=xs.length*k:=by rw [hD.length,flatten_len hk]
  have hfit:l.length*k+news.length≤cs.length:=by rw [hnl,c3,← Nat.add_mul];exact Nat.mul_le_mul_right _ hroom
  obtain ⟨T,hT⟩:=id hcs
  have hg:=run_append_room_src (P:=P) w t tx o.type e i he hi (ρ n).b 0 l.length (ρ n).cap (a.eval y) xs.length news (by rw [hsz];exact hS) hroom
   (fun j hj=>by rw [hsz,Nat.zero_add,cell_of hcs,List.getElem?_eq_getElem (by omega)];rfl) (fun j hj=>frozen_of_row w (ρ n).b _ cs.toArray T hT)
  obtain ⟨w',hrn,q1,q2,q3,q4,q5,q6,q7⟩:=run_storeOwn (P:=P) news w cs (l.length*k) 0 hcs hD.one (by omega)
  have hw':w.setCells (ρ n).b (0+l.length*i.size) news=w':=by
   have:=run_storeCells_cells (P:=P) (ρ n).b (l.length*k) news 0 w (fun j hj=>by rw [Nat.add_zero,cell_of hcs,List.getElem?_eq_getElem (by omega)];rfl) (fun j hj=>frozen_of_row w (ρ n).b _ cs.toArray T hT) hD.one
   rw [hrn] at this
   injection this with _ this
   rw [hsz,Nat.zero_add,this,Nat.add_zero]
  rw [hw'] at hg
  have hr:=exec_append (P:=P) (w:=w) (a:=a) ho hc hts hargs (by rw [e1];exact hg)
  refine ⟨w',_,⟨false,(ρ n).b,(ρ n).cap,(l++xs).length,v+1⟩,hr,rfl,rfl,?_,_,by rw [hll],fun _=>rfl⟩
  refine R.known hb (hlate _ _ _) q1 q2 q3 (by omega) (.inr (Nat.le_of_eq q7.symm)) (fun b _ h=>q5 b (h (rl l v hc0))) (fun h=>.inl ⟨rl l v hc0,rfl⟩) (fun h1 h2=>⟨⟨hkk,rfl,fun h=>absurd h (by show ¬ (ρ n).cap=0;omega),rfl,rfl⟩,fun _ => ?_⟩) (by simp [Blk.names])
  refine ⟨_,q6,by rw [hll];exact hroom,c2,by rw [setL_length];exact c3,vs++news,rest.drop news.length,?_,?_⟩
  ·rw [Nat.add_zero,setL_eq _ _ _ (by omega),c4,← hvl,List.take_left,List.drop_append,List.drop_eq_nil_of_le (by omega)]
   simp
  ·rw [List.flatten_append]
   exact (c5.mono h1 h2).append (hD.mono h1 h2)
 ·have hold:∃ olds,(Builtin.firstCells i.size l.length (.slice x l.length (ρ n).cap)).run P w.drew=.ok olds.toArray w.drew∧DsR w (Mof M0 ρ H) l.flatten olds:=by
   rcases Nat.eq_zero_or_pos (ρ n).cap with h|h
   ·have:=k3 h
    subst this
    refine ⟨[],?_,trivial⟩
    cases x with
    | none=>exact run_firstCells_none w.drew i.size 0 0 _
    | some ad=>exact run_firstCells_some w.drew i.size 0 ad 0 _ [] (by simp) (by simp)
   ·obtain ⟨cs,hcs,c1,c2,c3,vs,rest,c4,c5⟩:=hreal (rl l v h)
    rw [e2 h]
    refine ⟨vs,run_firstCells_some w.drew i.size l.length _ _ _ vs (by rw [hsz,c5.length,flatten_len k1]) (fun j u hj => ?_),c5⟩
    rw [add_plain,Nat.zero_add]
    have:w.drew.cell? ⟨(ρ n).b,j,none⟩=w.cell? ⟨(ρ n).b,j,none⟩:=by simp
    rw [this,cell_of hcs,c4,List.getElem?_append_left (List.getElem?_eq_some_iff.1 hj).1]
    exact hj
  obtain ⟨olds,hold,hDo⟩:=hold
  have hg:=run_append_grow_src (P:=P) w t tx o.type e i z he hi hzero x l.length (ρ n).cap olds hold (a.eval y) xs.length news (by rw [hsz];exact hS) (by omega) (by omega) (growfits (by omega) (by omega) hby)
  obtain ⟨cs,hcs,hC⟩:=grown_row (ρ:=ρ) (M:=Mof M0 ρ H) (k:=k) (e:=e) (l:=l) (xs:=xs) (olds:=olds) (old:=(ρ n).cap) hzs hDo hD k1 hk hlen
  rw [hcs] at hg
  have hr:=exec_append (P:=P) (w:=w) (a:=a) ho hc hts hargs (by rw [e1];exact hg)
  have hbl:Below w.heap.size w (w.drew.alloc (.cells cs.toArray e)):=below_drew_alloc w _
  have hnew:(w.drew.alloc (.cells cs.toArray e)).heap[w.heap.size]? = some (.cells cs.toArray e (0,0)):=heap_alloc_new w.drew _
  have hge:=grownCap_ge w (l.length+xs.length) (ρ n).cap e
  refine ⟨_,_,⟨false,w.heap.size,grownCap w (l.length+xs.length) (ρ n).cap e,(l++xs).length,v+1⟩,hr,rfl,rfl,?_,_,by rw [hll],fun _=>rfl⟩
  refine R.known hb (hlate _ _ _) hbl.os hbl.tape hbl.output hbl.size (.inr (Nat.le_succ _)) (fun b hb' _=>hbl.block b hb') (fun h=>.inr ⟨Nat.le_refl _,by simp⟩) (fun h1 h2=>⟨⟨hkk,rfl,fun h=>absurd h (by show ¬ grownCap w (l.length+xs.length) (ρ n).cap e=0;omega),rfl,rfl⟩,fun _ => ?_⟩) (by simp [Blk.names])
  obtain ⟨c1,c2,c3,vs,rest,c4,c5⟩:=hC
  exact ⟨cs,⟨e,hnew⟩,c1,c2,c3,vs,rest,c4,c5.mono h1 h2⟩
theorem st_appendRow (R:Rel C M0 w0 sz ρ E H a w) {h:Nat→Option Blk} (hh:∀ n b,h n=some b→look H n=some b) {c:Call} {s y:Operand} {t tx k kx n v:Nat} {ea ex:Bool} {zl zx:List D} (ht:TyOK P t (.sl k ea zl)) (htx:TyOK P tx (.sl kx ex zx))
  (ho:o.op=.call c) (hc:c.callee=.builtin .append) (hts:c.argTypes=#[t,tx]) (hargs:c.args.toList=[s,y]) (hs:ev (look E) s=some (.c (.at (.osl n v)))) {l:List (List D)} (hb:look H n=some (.row k l v)) {sy:SV} (hy:ev (look E) y=some sy) {xs:List (List D)} (hx:srcL k h sy=some xs) (hlen:(l++xs).length≤1000000)
  {d:Nat} (hd:o.dst=some d) (hlt:d<sz) :
  StepOK P C M0 w0 sz E H o (.new n (.row k (l++xs) (v+1)) (.c (.at (.osl n (v+1))))) a w∧StepOK P C M0 w0 sz E H o (.new n .frz (sD (.list k (l++xs)))) a w:=by
 obtain ⟨w',u,m,hr,m1,m2,R',hu⟩:=row_append R hh ht htx ho hc hts hargs hs hb hy hx hlen
 have hB:=R'.blk n _ (by rw [look_cons,if_pos rfl])
 have hone:u.oneCell'=true:=by obtain ⟨x,rfl,_⟩:=hu;rfl
 constructor
 ·refine ok_run (ρ':=upd ρ n m) hr ?_
  rw [hd]
  refine R'.val (dst:=some d) (x:=.c (.at (.osl n (v+1)))) (fun d' h=>by injection h with h;omega) ?_ (fun j hj => ?_)
  ·exact ⟨by rw [upd_same];exact m2,hone,by rw [upd_same,m1];exact Nat.le_refl _,fun _=>by rw [upd_same];exact hu⟩
  ·have:j=n:=by simpa [SV.names,SC.names,At.names] using hj
   rw [this,look_cons,if_pos rfl];rfl
 ·refine ok_run (ρ':=upd (upd ρ n m) n m) hr ?_
  have hlk:look ((n,Blk.row k (l++xs) (v+1))::H) n=some (.row k (l++xs) (v+1)):=by rw [look_cons,if_pos rfl]
  have R2:=R'.known (b:=.frz) (m:=m) (w':=w') hlk (.inl (by rw [upd_same])) rfl rfl rfl (Nat.le_refl _) (.inr (Nat.le_refl _)) (fun _ _ _=>rfl) (fun h=>by simp [Blk.real] at h) (fun _ _=>⟨trivial,fun h=>by simp [Blk.real] at h⟩) (by simp [Blk.names])
  have R3:=R2.same (E':=E) (H':=(n,.frz)::H) (fun t x hx=>hx) (fun j=>by
   simp only [look_cons]
   split
   ·rfl
   ·rename_i hj;rfl)
  rw [hd]
  refine R3.val (dst:=some d) (x:=sD (.list k (l++xs))) (fun d' h=>by injection h with h;omega) ?_ (fun j hj=>by simp [sD,SV.names,SC.names,At.names] at hj)
  rw [upd_same] at hB
  have hreal:0<m.cap→(Blk.row k (l++xs) (v+1)).real (upd ρ n m n)=true:=fun h=>by rw [upd_same];simpa [Blk.real] using h
  have hbm:0<m.cap→w0.heap.size≤m.b:=fun h=>by
   have:=R'.lo n _ hlk (hreal h)
   rw [upd_same,m2] at this
   rcases this with h|h
   ·exact h
   ·cases h.2
  have hnM:0<m.cap→¬ Mof M0 (upd (upd ρ n m) n m) ((n,.frz)::H) m.b:=fun h=>by
   rintro (h1|⟨j,z,hj,hz,e⟩)
   ·have:=R.out _ h1;have:=hbm h;omega
   ·by_cases hjn:j=n
    ·subst hjn
     rw [look_cons,if_pos rfl] at hj
     injection hj with hj;subst hj
     simp [Blk.real] at hz
    ·rw [look_cons,if_neg (fun e=>hjn e.symm)] at hj
     rw [upd_other hjn] at hz e
     exact hjn (R'.inj j n z _ (by rw [look_cons,if_neg (fun e=>hjn e.symm)];exact hj) hlk hz (hreal h) (by rw [upd_same];exact e))
  refine row_data (ρ:=upd ρ n m) hB hu (fun b _ hM => ?_) hnM (fun h=>by have:=R'.hi n _ hlk (hreal h);rwa [upd_same] at this)
  rcases hM with h1|⟨j,z,hj,hz,e⟩
  ·exact .inl h1
  ·by_cases hjn:j=n
   ·subst hjn
    rw [look_cons,if_pos rfl] at hj
    injection hj with hj;subst hj
    simp [Blk.real] at hz
   ·rw [look_cons,if_neg (fun e=>hjn e.symm)] at hj
    rw [upd_other hjn] at hz e
    exact .inr ⟨j,z,by rw [look_cons,if_neg (fun e=>hjn e.symm)];exact hj,hz,e⟩
end
end Sx
end Go.Proofs.YtddbmpbihpkabaaGreat
