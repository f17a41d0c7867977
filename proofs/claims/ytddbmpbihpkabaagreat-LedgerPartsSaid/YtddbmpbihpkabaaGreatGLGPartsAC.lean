import Derived.Test.YtddbmpbihpkabaaGreatGLGPartsAB
set_option linter.all false
namespace Go.Proofs.YtddbmpbihpkabaaGreat
open Go Go.RowKit
namespace Sx
theorem look_cons {α:Type} (k:Nat) (x:α) (r:List (Nat × α)) (t:Nat):look ((k,x)::r) t=if k=t then some x else look r t:=rfl
theorem At.oneCell {ρ:Nat→Nm} {w:World} {M:Nat→Prop}:∀ {a:At} {v:Value},AtR ρ w M a v→v.oneCell'=true
 | .d x,v,h=>by
  have h:Rep w M x v:=h
  cases h<;>first|rfl|assumption|(apply Hue.oneCell;assumption)
 | .ptr n o,v,h=>by obtain ⟨_,rfl⟩:=h;rfl
 | .osl n len,v,h=>h.2.1
 | .rp n len k i o,v,h=>h.2.1
 | .ep k l i o,v,⟨b,off,e,_⟩=>by subst e;rfl
 | .fn f caps,v,h=>by obtain ⟨_,rfl⟩:=h;rfl
 | .ifp t n o,v,h=>by obtain ⟨_,rfl⟩:=h;rfl
 | .asl n len,v,h=>by obtain ⟨_,rfl⟩:=h;rfl
 | .zsl k,v,h=>by obtain ⟨_,rfl⟩:=h;rfl
theorem cells_oneCell {v:Value} (h:v.oneCell'=true):v.cells=#[v]:=by
 cases v<;>first|rfl|(simp [Value.oneCell'] at h)
theorem AtsR.length {ρ:Nat→Nm} {w:World} {M:Nat→Prop}:∀ {a:List At} {v:List Value},AtsR ρ w M a v→v.length=a.length
 | [],[],_=>rfl
 | a::l,v::vs,h=>by simp [AtsR.length h.2]
 | [],_::_,h=>h.elim
 | _::_,[],h=>h.elim
theorem AtsR.get {ρ:Nat→Nm} {w:World} {M:Nat→Prop}:∀ {a:List At} {v:List Value},AtsR ρ w M a v→∀ (i:Nat) (x:At),a[i]? = some x→∃ u,v[i]? = some u∧AtR ρ w M x u
 | [],[],_,i,x,h=>by simp at h
 | a::l,v::vs,h,0,x,hx=>by simp at hx;subst hx;exact ⟨v,rfl,h.1⟩
 | a::l,v::vs,h,i+1,x,hx=>by simpa using AtsR.get h.2 i x (by simpa using hx)
 | [],_::_,h,_,_,_=>h.elim
 | _::_,[],h,_,_,_=>h.elim
theorem AtsR.drop {ρ:Nat→Nm} {w:World} {M:Nat→Prop}:∀ (n:Nat) {a:List At} {v:List Value},AtsR ρ w M a v→AtsR ρ w M (a.drop n) (v.drop n)
 | 0,_,_,h=>h
 | n+1,[],[],h=>h
 | n+1,a::l,v::vs,h=>AtsR.drop n h.2
 | n+1,[],_::_,h=>h.elim
 | n+1,_::_,[],h=>h.elim
theorem AtsR.take {ρ:Nat→Nm} {w:World} {M:Nat→Prop}:∀ (n:Nat) {a:List At} {v:List Value},AtsR ρ w M a v→AtsR ρ w M (a.take n) (v.take n)
 | 0,_,_,h=>trivial
 | n+1,[],[],h=>h
 | n+1,a::l,v::vs,h=>⟨h.1,AtsR.take n h.2⟩
 | n+1,[],_::_,h=>h.elim
 | n+1,_::_,[],h=>h.elim
theorem AtsR.setL {ρ:Nat→Nm} {w:World} {M:Nat→Prop}:∀ (o:Nat) {a:List At} {v:List Value} {xs:List At} {us:List Value},AtsR ρ w M a v→AtsR ρ w M xs us→AtsR ρ w M (setL a o xs) (setL v o us)
 | o,a,v,[],[],h,_=>by cases o<;>cases a<;>cases v<;>first|exact h|exact h.elim
 | o,[],[],x::xs,u::us,h,_=>by simp only [Sx.setL];trivial
 | 0,a::l,v::vs,x::xs,u::us,h,k=>⟨k.1,AtsR.setL 0 h.2 k.2⟩
 | o+1,a::l,v::vs,x::xs,u::us,h,k=>⟨h.1,AtsR.setL o h.2 k⟩
 | _,[],_::_,_,_,h,_=>h.elim
 | _,_::_,[],_,_,h,_=>h.elim
 | _,_,_,[],_::_,_,k=>k.elim
 | _,_,_,_::_,[],_,k=>k.elim
theorem SCR.cells {ρ:Nat→Nm} {w:World} {M:Nat→Prop}:∀ {x:SC} {v:Value},SCR ρ w M x v→AtsR ρ w M (cellsC x) v.cells.toList
 | .at a,v,h=>by rw [cells_oneCell (At.oneCell h)];exact ⟨h,trivial⟩
 | .agg l,v,⟨vs,e,h⟩=>by subst e;simpa [Value.cells,cellsC] using h
theorem SCsR.get {ρ:Nat→Nm} {w:World} {M:Nat→Prop}:∀ {a:List SC} {v:List Value},SCsR ρ w M a v→∀ (i:Nat) (x:SC),a[i]? = some x→∃ u,v[i]? = some u∧SCR ρ w M x u
 | [],[],_,i,x,h=>by simp at h
 | a::l,v::vs,h,0,x,hx=>by simp at hx;subst hx;exact ⟨v,rfl,h.1⟩
 | a::l,v::vs,h,i+1,x,hx=>by simpa using SCsR.get h.2 i x (by simpa using hx)
 | [],_::_,h,_,_,_=>h.elim
 | _::_,[],h,_,_,_=>h.elim
theorem DsR.ats {ρ:Nat→Nm} {w:World} {M:Nat→Prop}:∀ {a:List D} {v:List Value},DsR w M a v↔AtsR ρ w M (a.map .d) v
 | [],[]=>Iff.rfl
 | a::l,v::vs=>⟨fun h=>⟨h.1,DsR.ats.1 h.2⟩,fun h=>⟨h.1,DsR.ats.2 h.2⟩⟩
 | [],_::_=>Iff.rfl
 | _::_,[]=>Iff.rfl
theorem ref_row {w:World} {M:Nat→Prop} {l:List D} {v:Value} (h:Rep w M (.ref l) v):∃ b off,v=.pointer (some ⟨b,off,none⟩)∧RowAt w M b off l.length [l]:=by
 cases h with
 | @ref b off l vs hM hb hv hr =>
  refine ⟨b,off,rfl,1,?_⟩
  refine .list (fun _ j=>vs j) (by simp) (by omega) hM hb (by simp) (fun i j hi hj => ?_) (fun i j hi hj => ?_)
  ·have:i=0:=by simp at hi;exact hi
   subst this
   simpa using hv j hj
  ·have:i=0:=by simp at hi;exact hi
   subst this
   exact hr j hj
theorem DCR.emb {ρ:Nat→Nm} {w:World} {M:Nat→Prop}:∀ {a:DC} {v:Value},DCR w M a v→SCR ρ w M (embC a) v
 | .one (.v x),v,h=>h
 | .one (.nil x),v,h=>h
 | .one (.emp x),v,h=>h
 | .one (.list k x),v,h=>h
 | .one (.clo f x),v,h=>h
 | .one (.hue u m x),v,h=>h
 | .one (.ref l),v,h=>by
  obtain ⟨b,off,e,hr⟩:=ref_row h
  exact ⟨b,off,by simpa using e,hr⟩
 | .agg l,v,⟨vs,e,h⟩=>⟨vs,e,DsR.ats.1 h⟩
theorem DCsR.emb {ρ:Nat→Nm} {w:World} {M:Nat→Prop}:∀ {a:List DC} {v:List Value},DCsR w M a v→SCsR ρ w M (a.map embC) v
 | [],[],h=>h
 | a::l,v::vs,h=>⟨DCR.emb h.1,DCsR.emb h.2⟩
 | [],_::_,h=>h
 | _::_,[],h=>h
theorem DVR.emb {ρ:Nat→Nm} {w:World} {M:Nat→Prop}:∀ {a:DV} {v:Value},DVR w M a v→SVR ρ w M (embV a) v
 | .c x,v,h=>DCR.emb h
 | .tup l,v,⟨vs,e,h⟩=>⟨vs,e,DCsR.emb h⟩
theorem names_map_d (l:List D):namesA (l.map .d)=[]:=by induction l with
 | nil=>rfl
 | cons x l ih=>simp [namesA,At.names]
theorem names_embC (x:DC):(embC x).names=[]:=by
 cases x with
 | one d=>cases d<;>simp [embC,SC.names,At.names]
 | agg l=>simp [embC,SC.names,names_map_d]
theorem names_embV (x:DV):(embV x).names=[]:=by
 cases x with
 | c x=>exact names_embC x
 | tup l=>simp [embV,SV.names,namesC,names_embC]
theorem put_other {a:Act} {dst:Option Tmp} {v:Value} {t:Nat} (h:dst≠some t):(a.put dst v).tmps.getD t undef=a.tmps.getD t undef:=by
 cases dst with
 | none=>rfl
 | some d =>
  have:d≠t:=fun e=>h (by rw [e])
  simp [Act.put,Array.getElem?_setIfInBounds_ne this]
theorem put_same {a:Act} {d:Tmp} {v:Value} (h:d<a.tmps.size):(a.put (some d) v).tmps.getD d undef=v:=by simp [Act.put,h]
theorem put_size {a:Act} {dst:Option Tmp} {v:Value}:(a.put dst v).tmps.size=a.tmps.size:=by cases dst<;>simp [Act.put]
theorem put_defers {a:Act} {dst:Option Tmp} {v:Value}:(a.put dst v).defers=a.defers:=by cases dst<;>rfl
section
variable {C M0:Nat→Prop} {w0 w w':World} {sz:Nat} {ρ:Nat→Nm} {E:Env} {H:Hp} {a:Act}
theorem Rel.grow (R:Rel C M0 w0 sz ρ E H a w) (hb:Below w.heap.size w w') (hdr:C w0.heap.size∨w.drawn≤w'.drawn):Rel C M0 w0 sz ρ E H a w':=by
 have hh:Holds (Mof M0 ρ H) w w':=.of_below hb
 refine ⟨R.below.trans (.of_below hb R.below.size hdr),R.out,fun t x h=>(R.env t x h).mono hh (fun _ _ h=>h),R.lo,fun n b h hr=>Nat.lt_of_lt_of_le (R.hi n b h hr) hb.size,fun n b h => ?_,R.inj,R.defers,R.size,R.pin,R.clE,R.clH⟩
 obtain ⟨hs,hc⟩:=R.blk n b h
 refine ⟨hs.mono hh (fun _ _ h=>h),fun hr => ?_⟩
 obtain ⟨cs,⟨T,hc⟩,hv⟩:=hc hr
 exact ⟨cs,⟨T,(hb.block _ (R.hi n b h hr)).trans hc⟩,hv.mono hh (fun _ _ h=>h)⟩
theorem Rel.puts (R:Rel C M0 w0 sz ρ E H a w) {caps:List Nat} {B:List (Nat × Blk)} (hcap:∀ n∈caps,∃ cs,look H n=some (.own cs)) (hB:∀ n x,look B n=some x→n∈caps∧∃ ds:List D,x=.own (ds.map .d)∧∃ us,CellsAt w' (ρ n).b us∧DsR w' (Mof M0 ρ H) ds us) (hBc:∀ n∈caps,(look B n).isSome=true)
  (hos:w'.os=w.os) (htape:w'.tape=w.tape) (hout:w'.output=w.output) (hsize:w.heap.size≤w'.heap.size) (hdr:C w0.heap.size∨w.drawn≤w'.drawn)
  (hother:∀ k,k<w.heap.size→(∀ n∈caps,k≠(ρ n).b)→w'.heap[k]? = w.heap[k]?):Rel C M0 w0 sz ρ E (B++H) a w'∧∀ k,Mof M0 ρ (B++H) k→Mof M0 ρ H k:=by
 have lookB:∀ (B:List (Nat × Blk)) n,look (B++H) n=match look B n with|some x=>some x|none=>look H n:=by
  intro B n
  induction B with
  | nil=>rfl
  | cons p B ih=>obtain ⟨k,x⟩:=p;simp only [List.cons_append,look_cons];split<;>simp [ih]
 have lk:∀ n,(n∈caps→∃ ds:List D,look (B++H) n=some (.own (ds.map .d))∧∃ us,CellsAt w' (ρ n).b us∧DsR w' (Mof M0 ρ H) ds us)∧(n ∉ caps→look (B++H) n=look H n):=fun n=>by
  rw [lookB]
  constructor
  ·intro hn
   obtain ⟨x,hx⟩:=Option.isSome_iff_exists.1 (hBc n hn)
   obtain ⟨_,ds,rfl,h⟩:=hB n x hx
   rw [hx]
   exact ⟨ds,rfl,h⟩
  ·intro hn
   cases hx:look B n with
   | none=>rfl
   | some x=>exact absurd (hB n x hx).1 hn
 have hmof:∀ k,Mof M0 ρ (B++H) k↔Mof M0 ρ H k:=fun k=>by
  constructor
  ·rintro (h|⟨n,x,hx,hr,e⟩)
   ·exact .inl h
   ·by_cases hn:n∈caps
    ·obtain ⟨cs,hc⟩:=hcap n hn;exact .inr ⟨n,_,hc,rfl,e⟩
    ·rw [(lk n).2 hn] at hx;exact .inr ⟨n,x,hx,hr,e⟩
  ·rintro (h|⟨n,x,hx,hr,e⟩)
   ·exact .inl h
   ·by_cases hn:n∈caps
    ·obtain ⟨ds,hc,_⟩:=(lk n).1 hn;exact .inr ⟨n,_,hc,rfl,e⟩
    ·exact .inr ⟨n,x,by rw [(lk n).2 hn];exact hx,hr,e⟩
 have hM:∀ k,k<w.heap.size→Mof M0 ρ (B++H) k→Mof M0 ρ H k:=fun k _ h=>(hmof k).1 h
 have hold:Holds (Mof M0 ρ H) w w':=⟨hsize,fun k hk hm _=>hother k hk fun n hn e=>by
  obtain ⟨cs,hc⟩:=hcap n hn
  exact hm (.inr ⟨n,_,hc,rfl,e.symm⟩)⟩
 have hsome:∀ k,(look H k).isSome=true→(look (B++H) k).isSome=true:=fun k hk=>by
  by_cases hn:k∈caps
  ·obtain ⟨ds,hc,_⟩:=(lk k).1 hn;rw [hc];rfl
  ·rw [(lk k).2 hn];exact hk
 have old:∀ n b,look (B++H) n=some b→∃ b0,look H n=some b0∧b0.real (ρ n)=b.real (ρ n):=fun n b hb=>by
  by_cases hn:n∈caps
  ·obtain ⟨ds,hc,_⟩:=(lk n).1 hn
   rw [hc] at hb;injection hb with hb;subst hb
   obtain ⟨cs,hc⟩:=hcap n hn
   exact ⟨_,hc,rfl⟩
  ·rw [(lk n).2 hn] at hb;exact ⟨b,hb,rfl⟩
 refine ⟨?_,fun k h=>(hmof k).1 h⟩
 refine ⟨R.below.trans ⟨hos,htape,hout,hsize,fun k hk hC=>hother k (by have:=R.below.size;omega) fun n hn e => ?_,hdr⟩,R.out,fun t x h=>(R.env t x h).mono hold hM,fun n b hb hr => ?_,fun n b hb hr => ?_,fun n b hb => ?_,fun n n' b b' hb hb' hr hr' => ?_,R.defers,R.size,R.pin,fun t x h n hn=>hsome n (R.clE t x h n hn),fun n b hb m hm => ?_⟩
 ·obtain ⟨cs,hc⟩:=hcap n hn
  rcases R.lo n _ hc rfl with h|h
  ·omega
  ·rw [e] at hC;exact hC h.1
 ·obtain ⟨b0,h1,h2⟩:=old n b hb
  exact R.lo n b0 h1 (by rw [h2];exact hr)
 ·obtain ⟨b0,h1,h2⟩:=old n b hb
  exact Nat.lt_of_lt_of_le (R.hi n b0 h1 (by rw [h2];exact hr)) hsize
 ·by_cases hn:n∈caps
  ·obtain ⟨ds,hc,us,h1,h2⟩:=(lk n).1 hn
   rw [hc] at hb;injection hb with hb;subst hb
   exact ⟨trivial,fun _=>⟨us,h1,show AtsR ρ w' _ (ds.map .d) us from DsR.ats.1 (h2.mono (.refl _ _) fun k _ h=>(hmof k).1 h)⟩⟩
  ·rw [(lk n).2 hn] at hb
   obtain ⟨h1,h2⟩:=R.blk n b hb
   refine ⟨h1.mono hold hM,fun hr => ?_⟩
   obtain ⟨cs,⟨T,hc⟩,hv⟩:=h2 hr
   refine ⟨cs,⟨T,(hother _ (R.hi n b hb hr) fun m hm e => ?_).trans hc⟩,hv.mono hold hM⟩
   obtain ⟨cs',hc'⟩:=hcap m hm
   have:=R.inj n m _ _ hb hc' hr rfl e
   subst this;exact hn hm
 ·obtain ⟨b0,h1,h2⟩:=old n b hb
  obtain ⟨b0',h1',h2'⟩:=old n' b' hb'
  exact R.inj n n' b0 b0' h1 h1' (by rw [h2];exact hr) (by rw [h2'];exact hr')
 ·by_cases hn:n∈caps
  ·obtain ⟨ds,hc,_⟩:=(lk n).1 hn
   rw [hc] at hb;injection hb with hb;subst hb
   simp only [Blk.names] at hm
   rw [names_map_d] at hm;cases hm
  ·rw [(lk n).2 hn] at hb;exact hsome m (R.clH n b hb m hm)
theorem Rel.val (R:Rel C M0 w0 sz ρ E H a w) {dst:Option Nat} {x:SV} {v:Value} (hd:∀ d,dst=some d→d<sz) (hx:SVR ρ w (Mof M0 ρ H) x v) (hn:∀ n∈x.names,(look H n).isSome=true) :
  Rel C M0 w0 sz ρ (apE dst (.val x) E) H (a.put dst v) w:=by
 cases dst with
 | none=>exact R
 | some d =>
  refine ⟨R.below,R.out,fun t y h => ?_,R.lo,R.hi,R.blk,R.inj,by rw [put_defers];exact R.defers,by rw [put_size];exact R.size,R.pin,fun t y h => ?_,R.clH⟩
  ·simp only [apE,look_cons] at h
   split at h
   ·rename_i e;subst e
    injection h with h;subst h
    rw [put_same (by rw [R.size];exact hd _ rfl)]
    exact hx
   ·rename_i e
    rw [put_other (by simpa using e)]
    exact R.env t y h
  ·simp only [apE,look_cons] at h
   split at h
   ·injection h with h;subst h;exact hn
   ·exact R.clE t y h
def upd (ρ:Nat→Nm) (n:Nat) (m:Nm):Nat→Nm:=fun k=>if k=n then m else ρ k
theorem upd_same (ρ:Nat→Nm) (n:Nat) (m:Nm):upd ρ n m n=m:=by simp [upd]
theorem upd_other {ρ:Nat→Nm} {n:Nat} {m:Nm} {k:Nat} (h:k≠n):upd ρ n m k=ρ k:=by simp [upd,h]
theorem Rel.turn (R:Rel C M0 w0 sz ρ E H a w) {n:Nat} {b:Blk} {m:Nm} {E':Env} {a':Act}
  (hos:w'.os=w.os) (htape:w'.tape=w.tape) (hout:w'.output=w.output) (hsize:w.heap.size≤w'.heap.size) (hdr:C w0.heap.size∨w.drawn≤w'.drawn)
  (hother:∀ k,k<w.heap.size→(∀ c,look H n=some c→c.real (ρ n)=true→k≠(ρ n).b)→w'.heap[k]? = w.heap[k]?)
  (hblk:BlkR (upd ρ n m) w' (Mof M0 (upd ρ n m) ((n,b)::H)) m b) (hbn:∀ k∈b.names,(look ((n,b)::H) k).isSome=true)
  (hlo:b.real m=true→w0.heap.size≤m.b∨(C m.b∧m.own=true)) (hhi:b.real m=true→m.b<w'.heap.size)
  (hnew:b.real m=true→(∃ c,look H n=some c∧c.real (ρ n)=true∧m.b=(ρ n).b)∨w.heap.size≤m.b)
  (hE:∀ t x,look E' t=some x→SVR (upd ρ n m) w' (Mof M0 (upd ρ n m) ((n,b)::H)) x (a'.tmps.getD t undef))
  (hEn:∀ t x,look E' t=some x→∀ k∈x.names,(look ((n,b)::H) k).isSome=true)
  (hold:∀ k c,k≠n→look H k=some c→∀ cs,BlkC ρ w (Mof M0 ρ H) cs c (ρ k)→BlkC (upd ρ n m) w' (Mof M0 (upd ρ n m) ((n,b)::H)) cs c (ρ k))
  (holds:∀ k c,k≠n→look H k=some c→BlkS w (Mof M0 ρ H) c (ρ k)→BlkS w' (Mof M0 (upd ρ n m) ((n,b)::H)) c (ρ k))
  (hd:a'.defers=[]) (hsz:a'.tmps.size=sz) (hpin:∀ b,Pin C w0.heap.size n b→m.own=true∧m.b=b):Rel C M0 w0 sz (upd ρ n m) E' ((n,b)::H) a' w':=by
 have hne:∀ k c,k≠n→look ((n,b)::H) k=some c→look H k=some c:=fun k c hk h=>by
  rw [look_cons,if_neg (fun e=>hk e.symm)] at h;exact h
 have hself:∀ c,look ((n,b)::H) n=some c→c=b:=fun c h=>by rw [look_cons,if_pos rfl] at h;injection h with h;exact h.symm
 refine ⟨R.below.trans ⟨hos,htape,hout,hsize,fun k hk hC=>hother k (by have:=R.below.size;omega) fun c hc hr e => ?_,hdr⟩,R.out,hE,fun k c h hr => ?_,fun k c h hr => ?_,fun k c h => ?_,fun k k' c c' h h' hr hr' e => ?_,hd,hsz,fun k b h => ?_,hEn,fun k c h => ?_⟩
 ·rcases R.lo n c hc hr with h|h
  ·omega
  ·rw [e] at hC;exact hC h.1
 ·by_cases hk:k=n
  ·subst hk;obtain rfl:=hself c h;rw [upd_same] at *;exact hlo hr
  ·rw [upd_other hk] at *;exact R.lo k c (hne k c hk h) hr
 ·by_cases hk:k=n
  ·subst hk;obtain rfl:=hself c h;rw [upd_same] at *;exact hhi hr
  ·rw [upd_other hk] at *;exact Nat.lt_of_lt_of_le (R.hi k c (hne k c hk h) hr) hsize
 ·by_cases hk:k=n
  ·subst hk;obtain rfl:=hself c h;rw [upd_same];exact hblk
  ·have h:=hne k c hk h
   rw [upd_other hk]
   obtain ⟨h1,h2⟩:=R.blk k c h
   refine ⟨holds k c hk h h1,fun hr => ?_⟩
   obtain ⟨cs,⟨T,hc⟩,hv⟩:=h2 hr
   exact ⟨cs,⟨T,(hother _ (R.hi k c h hr) fun c' hc' hr' e=>hk (R.inj k n c c' h hc' hr hr' e)).trans hc⟩,hold k c hk h cs hv⟩
 ·by_cases hk:k=n<;>by_cases hk':k'=n
  ·omega
  ·subst hk
   obtain rfl:=hself c h
   rw [upd_same] at *
   rw [upd_other hk'] at *
   have h':=hne k' c' hk' h'
   rcases hnew hr with ⟨c0,h0,h1,h2⟩|h2
   ·exact absurd (R.inj k k' c0 c' h0 h' h1 hr' (by omega)) (fun e=>hk' e.symm)
   ·have:=R.hi k' c' h' hr';omega
  ·subst hk'
   obtain rfl:=hself c' h'
   rw [upd_same] at *
   rw [upd_other hk] at *
   have h:=hne k c hk h
   rcases hnew hr' with ⟨c0,h0,h1,h2⟩|h2
   ·exact absurd (R.inj k k' c c0 h h0 hr h1 (by omega)) hk
   ·have:=R.hi k c h hr;omega
  ·rw [upd_other hk] at *
   rw [upd_other hk'] at *
   exact R.inj k k' c c' (hne k c hk h) (hne k' c' hk' h') hr hr' e
 ·obtain ⟨p1,p2,p3,p4⟩:=R.pin k b h
  refine ⟨p1,p2,?_⟩
  by_cases hk:k=n
  ·subst hk;rw [upd_same];exact hpin b h
  ·rw [upd_other hk];exact ⟨p3,p4⟩
 ·by_cases hk:k=n
  ·subst hk;obtain rfl:=hself c h;exact hbn
  ·intro j hj
   have:=R.clH k c (hne k c hk h) j hj
   rw [look_cons];split
   ·rfl
   ·exact this
def Later (m m':Nm):Prop:=m'=m∨(m.own=false∧m'.own=false∧m.ver<m'.ver)
theorem AtR.later {M M':Nat→Prop} {n:Nat} {m:Nm} (hl:Later (ρ n) m) (hw:Holds M w w') (hM:∀ b,b<w.heap.size→M' b→M b):∀ {a:At} {v:Value},AtR ρ w M a v→AtR (upd ρ n m) w' M' a v:=by
 intro a v h
 rcases hl with rfl|⟨h1,h2,h3⟩
 ·have:upd ρ n (ρ n)=ρ:=by funext k;unfold upd;split<;>simp [*]
  rw [this];exact h.mono hw hM
 have key:∀ k,(ρ k).own=true→k≠n:=fun k hk e=>by rw [e,h1] at hk;cases hk
 cases a with
 | d x=>exact Rep.mono h hw hM
 | ptr k o=>obtain ⟨e,h⟩:=h;exact ⟨by rw [upd_other (key k e)];exact e,by rw [upd_other (key k e)];exact h⟩
 | osl k len =>
  obtain ⟨e1,e2,e3,e4⟩:=h
  by_cases hk:k=n
  ·subst hk
   simp only [AtR,upd_same]
   exact ⟨h2,e2,by omega,fun e=>by omega⟩
  ·simp only [AtR,upd_other hk];exact ⟨e1,e2,e3,e4⟩
 | rp k len kk i o =>
  obtain ⟨e1,e2,e3,e4⟩:=h
  by_cases hk:k=n
  ·subst hk
   simp only [AtR,upd_same]
   exact ⟨h2,e2,by omega,fun e=>by omega⟩
  ·simp only [AtR,upd_other hk];exact ⟨e1,e2,e3,e4⟩
 | ep k l i o=>obtain ⟨b,off,e,cap,h⟩:=h;exact ⟨b,off,e,cap,h.mono hw hM⟩
 | fn f caps =>
  obtain ⟨e,h⟩:=h
  refine ⟨fun k hk=>by rw [upd_other (key k (e k hk))];exact e k hk,?_⟩
  rw [h];congr 2
  exact List.map_congr_left fun k hx=>by rw [upd_other (key k (e k hx))]
 | ifp t k o=>obtain ⟨e,h⟩:=h;exact ⟨by rw [upd_other (key k e)];exact e,by rw [upd_other (key k e)];exact h⟩
 | asl k len=>obtain ⟨e,h⟩:=h;exact ⟨by rw [upd_other (key k e)];exact e,by rw [upd_other (key k e)];exact h⟩
 | zsl k=>exact h
theorem AtsR.later {M M':Nat→Prop} {n:Nat} {m:Nm} (hl:Later (ρ n) m) (hw:Holds M w w') (hM:∀ b,b<w.heap.size→M' b→M b):∀ {a:List At} {v:List Value},AtsR ρ w M a v→AtsR (upd ρ n m) w' M' a v
 | [],[],_=>trivial
 | a::l,v::vs,h=>⟨AtR.later hl hw hM h.1,AtsR.later hl hw hM h.2⟩
 | [],_::_,h=>h.elim
 | _::_,[],h=>h.elim
theorem SCR.later {M M':Nat→Prop} {n:Nat} {m:Nm} (hl:Later (ρ n) m) (hw:Holds M w w') (hM:∀ b,b<w.heap.size→M' b→M b):∀ {a:SC} {v:Value},SCR ρ w M a v→SCR (upd ρ n m) w' M' a v
 | .at a,v,h=>AtR.later hl hw hM h
 | .agg l,v,⟨vs,e,h⟩=>⟨vs,e,AtsR.later hl hw hM h⟩
theorem SCsR.later {M M':Nat→Prop} {n:Nat} {m:Nm} (hl:Later (ρ n) m) (hw:Holds M w w') (hM:∀ b,b<w.heap.size→M' b→M b):∀ {a:List SC} {v:List Value},SCsR ρ w M a v→SCsR (upd ρ n m) w' M' a v
 | [],[],_=>trivial
 | a::l,v::vs,h=>⟨SCR.later hl hw hM h.1,SCsR.later hl hw hM h.2⟩
 | [],_::_,h=>h.elim
 | _::_,[],h=>h.elim
theorem SVR.later {M M':Nat→Prop} {n:Nat} {m:Nm} (hl:Later (ρ n) m) (hw:Holds M w w') (hM:∀ b,b<w.heap.size→M' b→M b):∀ {a:SV} {v:Value},SVR ρ w M a v→SVR (upd ρ n m) w' M' a v
 | .c a,v,h=>SCR.later hl hw hM h
 | .tup l,v,⟨vs,e,h⟩=>⟨vs,e,SCsR.later hl hw hM h⟩
theorem BlkC.later {M M':Nat→Prop} {n:Nat} {m:Nm} (hl:Later (ρ n) m) (hw:Holds M w w') (hM:∀ b,b<w.heap.size→M' b→M b) {cs:List Value} {m':Nm}:∀ {x:Blk},BlkC ρ w M cs x m'→BlkC (upd ρ n m) w' M' cs x m'
 | .own cells,h=>AtsR.later hl hw hM h
 | .row k l _,⟨h2,h3,h4,vs,rest,h5,h6⟩=>⟨h2,h3,h4,vs,rest,h5,h6.mono hw hM⟩
 | .frz,_=>trivial
theorem Rel.known (R:Rel C M0 w0 sz ρ E H a w) {n:Nat} {b0 b:Blk} {m:Nm} (hn:look H n=some b0) (hl:Later (ρ n) m)
  (hos:w'.os=w.os) (htape:w'.tape=w.tape) (hout:w'.output=w.output) (hsize:w.heap.size≤w'.heap.size) (hdr:C w0.heap.size∨w.drawn≤w'.drawn)
  (hother:∀ k,k<w.heap.size→(b0.real (ρ n)=true→k≠(ρ n).b)→w'.heap[k]? = w.heap[k]?)
  (hnew:b.real m=true→(b0.real (ρ n)=true∧m.b=(ρ n).b)∨(w.heap.size≤m.b∧m.b<w'.heap.size))
  (hblk:Holds (Mof M0 ρ H) w w'→(∀ k,k<w.heap.size→Mof M0 (upd ρ n m) ((n,b)::H) k→Mof M0 ρ H k)→BlkR (upd ρ n m) w' (Mof M0 (upd ρ n m) ((n,b)::H)) m b) (hbn:∀ k∈b.names,(look H k).isSome=true) :
  Rel C M0 w0 sz (upd ρ n m) E ((n,b)::H) a w':=by
 have hold:Holds (Mof M0 ρ H) w w':=⟨hsize,fun k hk hm _=>hother k hk fun hr e=>hm (.inr ⟨n,b0,hn,hr,e.symm⟩)⟩
 have hM:∀ k,k<w.heap.size→Mof M0 (upd ρ n m) ((n,b)::H) k→Mof M0 ρ H k:=by
  rintro k hk (h|⟨j,x,hx,hr,e⟩)
  ·exact .inl h
  ·by_cases hj:j=n
   ·subst hj
    rw [look_cons,if_pos rfl] at hx
    injection hx with hx
    subst hx
    rw [upd_same] at *
    rcases hnew hr with ⟨h1,h2⟩|⟨h2,_⟩
    ·exact .inr ⟨j,b0,hn,h1,by omega⟩
    ·omega
   ·rw [look_cons,if_neg (fun e=>hj e.symm)] at hx
    rw [upd_other hj] at *
    exact .inr ⟨j,x,hx,hr,e⟩
 have hin:∀ k,(look H k).isSome=true→(look ((n,b)::H) k).isSome=true:=fun k hk=>by
  rw [look_cons];split
  ·rfl
  ·exact hk
 refine R.turn hos htape hout hsize hdr (fun k hk h=>hother k hk fun hr=>h b0 hn hr) (hblk hold hM) (fun k hk=>hin k (hbn k hk)) (fun hr => ?_) (fun hr => ?_) (fun hr => ?_)
  (fun t x hx=>(R.env t x hx).later hl hold hM) (fun t x hx k hk=>hin k (R.clE t x hx k hk)) (fun k c hk hc cs h=>h.later hl hold hM) (fun k c hk hc h=>h.mono hold hM) R.defers R.size (fun b h => ?_)
 ·rcases hnew hr with ⟨h1,h2⟩|⟨h2,_⟩
  ·rcases R.lo n b0 hn h1 with h|⟨h,h'⟩
   ·exact .inl (by omega)
   ·rcases hl with rfl|⟨h3,_⟩
    ·exact .inr ⟨h,h'⟩
    ·rw [h3] at h';cases h'
  ·have:=R.below.size;exact .inl (by omega)
 ·rcases hnew hr with ⟨h1,h2⟩|⟨_,h2⟩
  ·have:=R.hi n b0 hn h1;omega
  ·exact h2
 ·rcases hnew hr with ⟨h1,h2⟩|⟨h2,_⟩
  ·exact .inl ⟨b0,hn,h1,h2⟩
  ·exact .inr h2
 ·obtain ⟨_,_,p3,p4⟩:=R.pin n b h
  rcases hl with rfl|⟨h3,_⟩
  ·exact ⟨p3,p4⟩
  ·rw [h3] at p3;cases p3
theorem Rel.fresh (R:Rel C M0 w0 sz ρ E H a w) {n:Nat} {b:Blk} {m:Nm} (hn:look H n=none) (hlt:n<sz∨n<1000∨∀ b,¬ Pin C w0.heap.size n b)
  (hos:w'.os=w.os) (htape:w'.tape=w.tape) (hout:w'.output=w.output) (hsize:w.heap.size≤w'.heap.size) (hdr:C w0.heap.size∨w.drawn≤w'.drawn)
  (hother:∀ k,k<w.heap.size→w'.heap[k]? = w.heap[k]?)
  (hnew:b.real m=true→w.heap.size≤m.b∧m.b<w'.heap.size)
  (hblk:Holds (Mof M0 ρ H) w w'→(∀ k,k<w.heap.size→Mof M0 (upd ρ n m) ((n,b)::H) k→Mof M0 ρ H k)→(∀ k,(look H k).isSome=true→upd ρ n m k=ρ k)→BlkR (upd ρ n m) w' (Mof M0 (upd ρ n m) ((n,b)::H)) m b) (hbn:∀ k∈b.names,(look H k).isSome=true) :
  Rel C M0 w0 sz (upd ρ n m) E ((n,b)::H) a w':=by
 have hold:Holds (Mof M0 ρ H) w w':=⟨hsize,fun k hk _ _=>hother k hk⟩
 have hne:∀ k,(look H k).isSome=true→k≠n:=fun k hk e=>by rw [e,hn] at hk;cases hk
 have hρ:∀ k,(look H k).isSome=true→upd ρ n m k=ρ k:=fun k hk=>upd_other (hne k hk)
 have hM:∀ k,k<w.heap.size→Mof M0 (upd ρ n m) ((n,b)::H) k→Mof M0 ρ H k:=by
  rintro k hk (h|⟨j,x,hx,hr,e⟩)
  ·exact .inl h
  ·by_cases hj:j=n
   ·subst hj
    rw [look_cons,if_pos rfl] at hx
    injection hx with hx
    subst hx
    rw [upd_same] at *
    have:=hnew hr;omega
   ·rw [look_cons,if_neg (fun e=>hj e.symm)] at hx
    rw [upd_other hj] at *
    exact .inr ⟨j,x,hx,hr,e⟩
 have hin:∀ k,(look H k).isSome=true→(look ((n,b)::H) k).isSome=true:=fun k hk=>by
  rw [look_cons];split
  ·rfl
  ·exact hk
 refine R.turn hos htape hout hsize hdr (fun k hk h=>hother k hk) (hblk hold hM hρ) (fun k hk=>hin k (hbn k hk)) (fun hr => ?_) (fun hr=>(hnew hr).2) (fun hr=>.inr (hnew hr).1)
  (fun t x hx=>((R.env t x hx).mono hold hM).rename fun k hk=>hρ k (R.clE t x hx k hk)) (fun t x hx k hk=>hin k (R.clE t x hx k hk))
  (fun k c hk hc cs h=>(h.mono hold hM).rename fun j hj=>hρ j (R.clH k c hc j hj)) (fun k c hk hc h=>h.mono hold hM) R.defers R.size (fun b h=>by
   obtain ⟨p1,p2,_⟩:=R.pin n b h
   rcases hlt with h1|h1|h1
   ·omega
   ·omega
   ·exact absurd h (h1 b))
 have:=R.below.size
 have:=hnew hr
 exact .inl (by omega)
theorem Rel.less (R:Rel C M0 w0 sz ρ E H a w) {E':Env} {H':Hp} (hE:∀ t x,look E' t=some x→look E t=some x) (hH:∀ n b,look H' n=some b→look H n=some b)
  (hcE:∀ t x,look E' t=some x→∀ n∈x.names,(look H' n).isSome=true) (hcH:∀ n b,look H' n=some b→∀ m∈b.names,(look H' m).isSome=true):Rel C M0 w0 sz ρ E' H' a w:=by
 have hM:∀ k,Mof M0 ρ H' k→Mof M0 ρ H k:=by
  rintro k (h|⟨m,x,hm,hr,e⟩)
  ·exact .inl h
  ·exact .inr ⟨m,x,hH m x hm,hr,e⟩
 have hold:Holds (Mof M0 ρ H) w w:=.refl _ _
 refine ⟨R.below,R.out,fun t y h=>(R.env t y (hE t y h)).mono hold (fun k _=>hM k),fun m c h=>R.lo m c (hH m c h),fun m c h=>R.hi m c (hH m c h),fun m c h => ?_,fun m m' c c' hm hm'=>R.inj m m' c c' (hH m c hm) (hH m' c' hm'),R.defers,R.size,R.pin,hcE,hcH⟩
 obtain ⟨hs,hc⟩:=R.blk m c (hH m c h)
 refine ⟨hs.mono hold (fun k _=>hM k),fun hr => ?_⟩
 obtain ⟨cs,hc,hv⟩:=hc hr
 exact ⟨cs,hc,hv.mono hold (fun k _=>hM k)⟩
theorem Rel.same (R:Rel C M0 w0 sz ρ E H a w) {E':Env} {H':Hp} (hE:∀ t x,look E' t=some x→look E t=some x) (hH:∀ n,look H' n=look H n):Rel C M0 w0 sz ρ E' H' a w :=
 R.less hE (fun n b h=>by rw [← hH];exact h) (fun t x h n hn=>by rw [hH];exact R.clE t x (hE t x h) n hn) (fun n b h m hm=>by rw [hH];exact R.clH n b (by rw [← hH];exact h) m hm)
theorem upd_self (ρ:Nat→Nm) (n:Nat):upd ρ n (ρ n)=ρ:=by funext k;unfold upd;split<;>simp [*]
theorem Rel.new (R:Rel C M0 w0 sz ρ E H a w) {d n:Nat} {cells:List At} {cs:List Value} {T:TypeId} {x:SV} {v:Value} (hd:d<sz) (hn:n<sz) (hf:look H n=none)
  (hb:AtsR ρ w (Mof M0 ρ H) cells cs) (hbn:∀ m∈(Blk.own cells).names,(look H m).isSome=true)
  (hx:∀ ρ' w' M',ρ' n=⟨true,w.heap.size,0,0,0⟩→SVR ρ' w' M' x v) (hxn:∀ m∈x.names,m=n) :
  Rel C M0 w0 sz (upd ρ n ⟨true,w.heap.size,0,0,0⟩) (apE (some d) (.new n (.own cells) x) E) (apH (.new n (.own cells) x) H) (a.put (some d) v) (w.alloc (.cells cs.toArray T)):=by
 have hbl:Below w.heap.size w (w.alloc (.cells cs.toArray T)):=(Below.refl _ _).alloc (Nat.le_refl _) _
 have R':=R.fresh (b:=.own cells) (m:=⟨true,w.heap.size,0,0,0⟩) hf (.inl hn) hbl.os hbl.tape hbl.output hbl.size (.inr (Nat.le_refl _)) (fun k hk=>hbl.block k hk) (fun _=>⟨Nat.le_refl _,by simp⟩)
  (fun h1 h2 h3=>⟨trivial,fun _=>⟨cs,⟨T,heap_alloc_new w _⟩,AtsR.rename (fun m hm=>h3 m (hbn m hm)) (hb.mono h1 h2)⟩⟩) hbn
 refine R'.val (dst:=some d) (x:=x) (fun d' h=>by injection h with h;omega) (hx _ _ _ (upd_same _ _ _)) (fun m hm => ?_)
 rw [hxn m hm,look_cons,if_pos rfl];rfl
theorem Rel.put (R:Rel C M0 w0 sz ρ E H a w) {n:Nat} {b b':Blk} {cs:List Value} (hn:look H n=some b') (hr:b'.real (ρ n)=true)
  (hos:w'.os=w.os) (htape:w'.tape=w.tape) (hout:w'.output=w.output) (hsize:w'.heap.size=w.heap.size) (hdr:C w0.heap.size∨w.drawn≤w'.drawn) (hother:∀ k,k≠(ρ n).b→w'.heap[k]? = w.heap[k]?) (hat:CellsAt w' (ρ n).b cs)
  (hb:BlkC ρ w (Mof M0 ρ H) cs b (ρ n)) (hs:BlkS w (Mof M0 ρ H) b (ρ n)) (hbn:∀ m∈b.names,(look H m).isSome=true) :
  Rel C M0 w0 sz ρ E (apH (.put n b) H) a w':=by
 have R':=R.known (b:=b) (m:=ρ n) hn (.inl rfl) hos htape hout (by omega) hdr (fun k hk h=>hother k (h hr)) (fun _=>.inl ⟨hr,rfl⟩)
  (fun h1 h2=>⟨hs.mono h1 h2,fun _=>⟨cs,hat,hb.later (.inl rfl) h1 h2⟩⟩) hbn
 rwa [upd_self] at R'
end
end Sx
end Go.Proofs.YtddbmpbihpkabaaGreat

namespace Go.Proofs.YtddbmpbihpkabaaGreat
open Go Go.RowKit
namespace Sx
def TyOK (P:Program) (t:Nat) (td:TD):Prop :=
 (∀ w,(sizeOf t).run P w=.ok td.size w)∧(∀ w,(isAgg t).run P w=.ok td.agg w) ∧
 (∃ z,(∀ w,(zeroValue t).run P w=.ok z w)∧∀ w M,DsR w M td.zero z.cells.toList) ∧
 match td with
 | .st _ _ fs=>∃ F:Array Field,P.underlying t=some (.struct F)∧F.size=fs.length∧∀ (i:Nat) (x:Nat × Nat × Bool),fs[i]? = some x→∃ f:Field,F[i]? = some f∧f.offset=x.1∧(∀ w,(sizeOf f.type).run P w=.ok x.2.1 w)∧(∀ w,(isAgg f.type).run P w=.ok x.2.2 w)
 | .int k=>P.underlying t=some (.int k)
 | .bool=>P.underlying t=some .bool
 | .sl ek ea zl=>∃ e,P.underlying t=some (.slice e)∧(∀ w,(sizeOf e).run P w=.ok ek w)∧(∀ w,(isAgg e).run P w=.ok ea w)∧(∃ z,(∀ w,(zeroValue e).run P w=.ok z w)∧z.cells.size=ek) ∧
  ∃ i z,P.info? e=some i∧i.size=ek∧i.zero=some z∧z.cells.size=ek∧(∀ w M,DsR w M zl z.cells.toList)∧i.bytes≤65536
 | .ar _ _ len ek ea=>∃ e,P.underlying t=some (.array len e)∧(∀ w,(sizeOf e).run P w=.ok ek w)∧(∀ w,(isAgg e).run P w=.ok ea w)
 | .sc _=>True
def ΓOK (P:Program) (Γ:Cfg):Prop:=∀ t td,look Γ.ty t=some td→TyOK P t td
theorem run_underlying_of {P:Program} {t:Nat} {d:TypeDesc} (h:P.underlying t=some d) (w:World):(underlying t).run P w=.ok d w:=by
 simp [underlying,h]
theorem retD_has {sz:Nat} {dst:Option Nat} {s:SV} {x:Eff} (h:(retD sz dst s).has x):∃ d,dst=some d∧d<sz∧x=.val s:=by
 unfold retD at h
 cases dst with
 | none=>exact h.elim
 | some d =>
  simp only at h
  cases hb:Nat.blt d sz with
  | false=>rw [hb] at h;exact h.elim
  | true=>rw [hb] at h;exact ⟨d,rfl,by simpa using hb,h.symm⟩
theorem guardD_has {sz:Nat} {dst:Option Nat} {r:SR} {x:Eff} (h:(guardD sz dst r).has x):∃ d,dst=some d∧d<sz∧r.has x:=by
 unfold guardD at h
 cases dst with
 | none=>exact h.elim
 | some d =>
  simp only at h
  cases hb:Nat.blt d sz with
  | false=>rw [hb] at h;exact h.elim
  | true=>rw [hb] at h;exact ⟨d,rfl,by simpa using hb,h⟩
section
variable {P:Program} {C M0:Nat→Prop} {w0 w:World} {sz:Nat} {ρ:Nat→Nm} {E:Env} {H:Hp} {a:Act} {o:Oper} {x:Eff}
 {next:Act→World→Prop} {Q:Exit→Act→World→Prop}
def StepOK (P:Program) (C M0:Nat→Prop) (w0:World) (sz:Nat) (E:Env) (H:Hp) (o:Oper) (x:Eff) (a:Act) (w:World):Prop :=
 ∀ (next:Act→World→Prop) (Q:Exit→Act→World→Prop),
  (∀ ρ' v w',Rel C M0 w0 sz ρ' (apE o.dst x E) (apH x H) (a.put o.dst v) w'→next (a.put o.dst v) w')→o.wp P a w next Q
theorem ok_run {v:Value} {w':World} {ρ':Nat→Nm} (hr:(execOp a.eval o).run P w=.ok (.value v) w')
  (R:Rel C M0 w0 sz ρ' (apE o.dst x E) (apH x H) (a.put o.dst v) w'):StepOK P C M0 w0 sz E H o x a w:=by
 intro next Q hn
 unfold Oper.wp
 rw [hr]
 exact hn _ _ _ R
theorem ok_skip {w':World} {ρ':Nat→Nm} (hr:(execOp a.eval o).run P w=.ok .skip w')
  (R:Rel C M0 w0 sz ρ' (apE o.dst x E) (apH x H) (a.put o.dst undef) w'):StepOK P C M0 w0 sz E H o x a w:=by
 intro next Q hn
 unfold Oper.wp
 rw [hr]
 exact hn _ _ _ R
theorem ok_val {v:Value} {s:SV} (R:Rel C M0 w0 sz ρ E H a w) (hr:(execOp a.eval o).run P w=.ok (.value v) w) {d:Nat} (hd:o.dst=some d) (hlt:d<sz)
  (hx:SVR ρ w (Mof M0 ρ H) s v) (hn:∀ n∈s.names,(look H n).isSome=true):StepOK P C M0 w0 sz E H o (.val s) a w :=
 ok_run (x:=.val s) hr (R.val (fun d' h=>by rw [hd] at h;injection h with h;omega) hx hn)
theorem ev_ok (R:Rel C M0 w0 sz ρ E H a w) {y:Operand} {s:SV} (h:ev (look E) y=some s):SVR ρ w (Mof M0 ρ H) s (a.eval y)∧∀ n∈s.names,(look H n).isSome=true:=by
 cases y with
 | tmp t=>exact ⟨R.env t s h,R.clE t s h⟩
 | const v =>
  simp only [ev] at h
  split at h
  ·rename_i hw
   have hw:=wfB_iff hw
   cases v<;>simp only [Option.some.injEq,reduceCtorEq] at h<;>subst h<;>exact ⟨Rep.v _ rfl hw,fun n hn=>by simp [sV,SV.names,SC.names,At.names] at hn⟩
  ·cases h
 | global g=>simp [ev] at h
 | func f =>
  simp only [ev,Option.some.injEq] at h
  subst h
  exact ⟨⟨fun n hn=>by simp at hn,rfl⟩,fun n hn=>by simp [SV.names,SC.names,At.names] at hn⟩
theorem sV_names {v:Value} {p:Nat→Prop}:(∀ n∈(sV v).names,p n):=fun n hn=>by simp [sV,SV.names,SC.names,At.names] at hn
theorem embV_names {v:DV} {p:Nat→Prop}:(∀ n∈(embV v).names,p n):=fun n hn=>by rw [names_embV] at hn;cases hn
theorem st_move (R:Rel C M0 w0 sz ρ E H a w) {y:Operand} {s:SV} (ho:o.op=.move y∨o.op=.assign y) (he:ev (look E) y=some s) (h:(retD sz o.dst s).has x):StepOK P C M0 w0 sz E H o x a w:=by
 obtain ⟨d,hd,hlt,rfl⟩:=retD_has h
 obtain ⟨h1,h2⟩:=ev_ok R he
 refine ok_val R (v:=a.eval y) ?_ hd hlt h1 h2
 rcases ho with ho|ho<;>simp [execOp,ho]
theorem st_alloc (R:Rel C M0 w0 sz ρ E H a w) {t:Nat} {td:TD} (ht:TyOK P t td) (ho:o.op=.alloc t) {d:Nat} (hd:o.dst=some d) (hlt:d<sz) (hf:look H d=none) :
  StepOK P C M0 w0 sz E H o (.new d (.own (td.zero.map .d)) (.c (.at (.ptr d 0)))) a w:=by
 obtain ⟨z,hz,hD⟩:=ht.2.2.1
 have hr:(execOp a.eval o).run P w=.ok (.value (.pointer (some ⟨w.heap.size,0,none⟩))) (w.alloc (.cells z.cells.toList.toArray t)):=by
  simp [execOp,ho,Instr.alloc,newVar,newRow,hz]
 refine ok_run (ρ':=upd ρ d ⟨true,w.heap.size,0,0,0⟩) hr ?_
 rw [hd]
 exact R.new hlt hlt hf (DsR.ats.1 (hD _ _)) (by simp [Blk.names,names_map_d]) (fun ρ' w' M' e=>⟨by rw [e],by rw [e]⟩) (fun m hm=>by simpa [SV.names,SC.names,At.names] using hm)
theorem st_box (R:Rel C M0 w0 sz ρ E H a w) {t:Nat} {y:Operand} {s:SC} (ho:o.op=.box t y) (he:ev (look E) y=some (.c s)) {d:Nat} (hd:o.dst=some d) (hlt:d<sz) (hf:look H d=none) :
  StepOK P C M0 w0 sz E H o (.new d (.own (cellsC s)) (.c (.at (.ptr d 0)))) a w:=by
 obtain ⟨h1,h2⟩:=ev_ok R he
 have hr:(execOp a.eval o).run P w=.ok (.value (.pointer (some ⟨w.heap.size,0,none⟩))) (w.alloc (.cells (a.eval y).cells.toList.toArray t)):=by
  simp [execOp,ho,Instr.box,newVar,newRow]
 refine ok_run (ρ':=upd ρ d ⟨true,w.heap.size,0,0,0⟩) hr ?_
 rw [hd]
 refine R.new hlt hlt hf (SCR.cells h1) (fun m hm=>h2 m ?_) (fun ρ' w' M' e=>⟨by rw [e],by rw [e]⟩) (fun m hm=>by simpa [SV.names,SC.names,At.names] using hm)
 cases s<;>simpa [Blk.names,cellsC,SV.names,SC.names,namesA] using hm
theorem add_plain (b o j:Nat):(⟨b,o,none⟩:Addr).add j=⟨b,o+j,none⟩:=by
 unfold Addr.add
 split
 ·rename_i h;subst h;rfl
 ·rfl
theorem cell_of {w:World} {b:Nat} {cs:List Value} (h:CellsAt w b cs) (j:Nat):w.cell? ⟨b,j,none⟩=cs[j]? := by
 obtain ⟨T,h⟩:=h
 rw [cell_of_row w b j cs.toArray T _ h]
 simp
theorem namesA_sub {l l':List At} (h:∀ a∈l',a∈l):∀ n∈namesA l',n∈namesA l:=fun n hn=>by
 simp only [namesA,List.mem_flatMap] at *
 obtain ⟨a,h1,h2⟩:=hn
 exact ⟨a,h a h1,h2⟩
theorem partA_some {agg:Bool} {l:List At} {off n:Nat} {s:SC} (h:partA agg l off n=some s) :
  (agg=true∧off+n≤l.length∧s=.agg ((l.drop off).take n))∨(agg=false∧∃ y,l[off]? = some y∧s=.at y):=by
 unfold partA at h
 cases agg with
 | true =>
  simp only [if_true] at h
  split at h
  ·rename_i hb
   injection h with h
   exact .inl ⟨rfl,by simpa using hb,h.symm⟩
  ·cases h
 | false =>
  simp only [Bool.false_eq_true,if_false] at h
  split at h
  ·rename_i y r hd
   injection h with h
   exact .inr ⟨rfl,y,by have:=congrArg (·[0]?) hd;simpa using this,h.symm⟩
  ·cases h
theorem partA_names {agg:Bool} {l:List At} {off n:Nat} {s:SC} (h:partA agg l off n=some s):∀ m∈s.names,m∈namesA l:=by
 rcases partA_some h with ⟨_,_,rfl⟩|⟨_,y,hy,rfl⟩
 ·exact namesA_sub fun y hy=>List.mem_of_mem_drop (List.mem_of_mem_take hy)
 ·intro m hm
  simp only [namesA,List.mem_flatMap]
  exact ⟨y,List.mem_of_getElem? hy,hm⟩
theorem st_load (R:Rel C M0 w0 sz ρ E H a w) {t:Nat} {td:TD} (ht:TyOK P t td) {y:Operand} {n off:Nat} (ho:o.op=.load t y) (he:ev (look E) y=some (.c (.at (.ptr n off))))
  {cs:List At} (hb:look H n=some (.own cs)) {s:SC} (hp:partA td.agg cs off td.size=some s) (h:(retD sz o.dst (.c s)).has x):StepOK P C M0 w0 sz E H o x a w:=by
 obtain ⟨d,hd,hlt,rfl⟩:=retD_has h
 obtain ⟨h1,h2⟩:=ev_ok R he
 have hv:a.eval y=.pointer (some ⟨(ρ n).b,off,none⟩):=h1.2
 obtain ⟨us,hc,hR⟩:=(R.blk n _ hb).2 rfl
 have hR:AtsR ρ w (Mof M0 ρ H) cs us:=hR
 have hnames:∀ m∈s.names,(look H m).isSome=true:=fun m hm=>R.clH n _ hb m (partA_names hp m hm)
 rcases partA_some hp with ⟨ha,hl,rfl⟩|⟨ha,u,hu,rfl⟩
 ·refine ok_val R (v:=.agg ((us.drop off).take td.size).toArray) ?_ hd hlt ⟨_,rfl,(hR.drop off).take _⟩ hnames
  have hlen:((us.drop off).take td.size).length=td.size:=by have:=hR.length;simp;omega
  have hrun:(loadCells ⟨(ρ n).b,off,none⟩ td.size).run P w=.ok ((us.drop off).take td.size).toArray w:=by
   have:=run_loadCells_list (P:=P) w ⟨(ρ n).b,off,none⟩ ((us.drop off).take td.size) (fun j v hj=>by
    rw [add_plain,cell_of hc]
    rw [List.getElem?_take] at hj
    split at hj
    ·rw [List.getElem?_drop] at hj;exact hj
    ·cases hj)
   rwa [hlen] at this
  simp [execOp,ho,hv,Instr.loadAt,Instr.sureAddr,loadVar,ht.2.1,ha,ht.1,hrun]
 ·obtain ⟨v,hv1,hv2⟩:=hR.get off u hu
  refine ok_val R (v:=v) ?_ hd hlt hv2 hnames
  simp [execOp,ho,hv,Instr.loadAt,Instr.sureAddr,loadVar,ht.2.1,ha,run_load,cell_of hc,hv1]
theorem AtsR.of_get {ρ:Nat→Nm} {w:World} {M:Nat→Prop}:∀ {a:List At} {v:List Value},a.length=v.length→(∀ (i:Nat) (x:At) (u:Value),a[i]? = some x→v[i]? = some u→AtR ρ w M x u)→AtsR ρ w M a v
 | [],[],_,_=>trivial
 | a::l,v::vs,h,k=>⟨k 0 a v rfl rfl,AtsR.of_get (by simpa using h) fun i x u h1 h2=>k (i+1) x u (by simpa using h1) (by simpa using h2)⟩
 | [],_::_,h,_=>by simp at h
 | _::_,[],h,_=>by simp at h
theorem st_loadEl (R:Rel C M0 w0 sz ρ E H a w) {t:Nat} {td:TD} (ht:TyOK P t td) {y:Operand} {k i off:Nat} {l:List (List D)} (ho:o.op=.load t y) (he:ev (look E) y=some (.c (.at (.ep k l i off))))
  {e:List D} (hl:l[i]? = some e) (hk:off+td.size≤e.length) {d:Nat} (hd:o.dst=some d) (hlt:d<sz) :
  StepOK P C M0 w0 sz E H o (.val (.c (match td.agg with|true=>.agg ((((e.map At.d).drop off).take td.size))|false=>.at ((e.map At.d)[off]?.getD default)))) a w:=by
 obtain ⟨h1,h2⟩:=ev_ok R he
 obtain ⟨b,off0,hv,cap,hrep⟩:=h1
 have hi:i<l.length:=by
  rcases Nat.lt_or_ge i l.length with h|h
  ·exact h
  ·rw [List.getElem?_eq_none h] at hl;cases hl
 have hei:l[i]=e:=by rw [List.getElem?_eq_getElem hi] at hl;injection hl
 generalize hsl:Value.slice (some ⟨b,off0,none⟩) l.length cap=sl at hrep
 cases hrep with
 | nil=>exact absurd hi (Nat.not_lt_zero _)
 | @list b' off' cap' _ _ vs hc hm hM hb hkk hcv hr =>
  injection hsl with e1 e2 e3
  injection e1 with e1
  injection e1 with e1 e4
  subst e1 e4
  have hek:e.length=k:=hkk e (List.mem_of_getElem? hl)
  have hcell:∀ j,j<k→w.cell? ⟨b,off0+i*k+j,none⟩=some (vs i j):=fun j hj=>hcv i j hi hj
  have hrep2:∀ j (hj:j<e.length),Rep w (Mof M0 ρ H) e[j] (vs i j):=fun j hj=>by
   have:=hr i j hi (by rw [hei];exact hj)
   simpa [hei] using this
  cases ha:td.agg with
  | true =>
   simp only
   have hsz:∀ j,j<td.size→off+j<k:=fun j hj=>by omega
   refine ok_val R (v:=.agg (((List.range td.size).map fun j=>vs i (off+j)).toArray)) ?_ hd hlt ⟨_,rfl,AtsR.of_get ?_ ?_⟩ ?_
   ·have:=run_loadCells (P:=P) w ⟨b,off0+i*k+off,none⟩ td.size (fun j=>vs i (off+j)) (fun j hj=>by rw [add_plain,Nat.add_assoc (off0+i*k)];exact hcell _ (hsz j hj))
    simp [execOp,ho,hv,Instr.loadAt,Instr.sureAddr,loadVar,ht.2.1,ha,ht.1,this]
   ·simp;omega
   ·intro j x u h1 h2
    rw [List.getElem?_take] at h1
    split at h1
    ·rename_i hj
     have hx:off+j<e.length:=by omega
     rw [List.getElem?_drop,List.getElem?_map,List.getElem?_eq_getElem hx] at h1
     simp at h1
     simp [List.getElem?_range hj] at h2
     subst h1 h2
     exact hrep2 _ hx
    ·cases h1
   ·intro n hn
    have:n∈namesA (e.map At.d):=namesA_sub (fun y hy=>List.mem_of_mem_drop (List.mem_of_mem_take hy)) n hn
    rw [names_map_d] at this
    cases this
  | false =>
   have hs1:td.size=1:=by cases td<;>simp [TD.agg] at ha<;>rfl
   have hx:off<e.length:=by omega
   simp only
   have he2:(e.map At.d)[off]?.getD default=At.d e[off]:=by simp [hx]
   rw [he2]
   refine ok_val R (v:=vs i off) ?_ hd hlt (hrep2 off hx) (fun n hn=>by simp [SV.names,SC.names,At.names] at hn)
   simp [execOp,ho,hv,Instr.loadAt,Instr.sureAddr,loadVar,ht.2.1,ha,run_load,hcell off (by omega)]
theorem setL_toList:∀ (cs:List Value) (o:Nat) (v:Value) (vs:List Value),setL cs o (v::vs)=setL (cs.set o v) (o+1) vs
 | [],o,v,vs=>by cases vs<;>simp [setL]
 | c::cs,0,v,vs=>by
  cases vs with
  | nil=>cases cs<;>simp [setL]
  | cons u us=>simp [setL]
 | c::cs,o+1,v,vs=>by
  simp only [setL,List.set_cons_succ,setL_toList cs o v vs]
  cases vs<;>simp [setL]
theorem drawn_setCell (w:World) (a:Addr) (v:Value):(w.setCell a v).drawn=w.drawn:=by
 unfold World.setCell
 split<;>rfl
theorem run_storeOwn {P:Program} {b:Nat}:∀ (vs:List Value) (w:World) (cs:List Value) (off i:Nat),CellsAt w b cs→(∀ v∈vs,v.oneCell'=true)→off+i+vs.length≤cs.length →
  ∃ w',(storeCells ⟨b,off,none⟩ vs i).run P w=.ok () w'∧w'.os=w.os∧w'.tape=w.tape∧w'.output=w.output∧w'.heap.size=w.heap.size∧(∀ k,k≠b→w'.heap[k]? = w.heap[k]?)∧CellsAt w' b (setL cs (off+i) vs)∧w'.drawn=w.drawn
 | [],w,cs,off,i,h,_,_=>⟨w,rfl,rfl,rfl,rfl,rfl,fun _ _=>rfl,by cases cs<;>exact h,rfl⟩
 | v::vs,w,cs,off,i,h,h1,hl=>by
  simp only [List.length_cons] at hl
  obtain ⟨T,hT⟩:=id h
  have hcell:w.cell? ⟨b,off+i,none⟩=some (cs[off+i]'(by omega)):=by rw [cell_of h,List.getElem?_eq_getElem]
  have hfz:=frozen_of_row w b (off+i) cs.toArray T hT
  have hset:CellsAt (w.setCell ⟨b,off+i,none⟩ v) b (cs.set (off+i) v):=⟨T,by rw [heap_setCell_same w b (off+i) cs.toArray T v hT];simp⟩
  obtain ⟨w',hr,h2,h3,h4,h5,h6,h7,h8⟩:=run_storeOwn (P:=P) vs (w.setCell ⟨b,off+i,none⟩ v) (cs.set (off+i) v) off (i+1) hset (fun u hu=>h1 u (List.mem_cons_of_mem _ hu)) (by simp;omega)
  refine ⟨w',?_,h2,h3,h4,by rw [h5];simp,fun k hk => ?_,?_,h8.trans (drawn_setCell _ _ _)⟩
  ·simp only [storeCells,Sem.run_bind,add_plain,run_store P w _ v _ (h1 v (List.mem_cons_self ..)),hcell,hfz]
   simpa using hr
  ·rw [h6 k hk,heap_setCell_other _ _ _ _ hk]
  ·rw [setL_toList];exact h7
theorem setL_length {α:Type}:∀ (l:List α) (o:Nat) (xs:List α),(setL l o xs).length=l.length
 | l,_,[]=>by cases l<;>simp [setL]
 | [],_,_::_=>by simp [setL]
 | c::cs,0,x::xs=>by simp [setL,setL_length cs 0 xs]
 | c::cs,n+1,x::xs=>by simp [setL,setL_length cs n (x::xs)]
theorem setL_mem {α:Type}:∀ (l:List α) (o:Nat) (xs:List α) (y:α),y∈setL l o xs→y∈l∨y∈xs
 | l,_,[],y,h=>by cases l<;>simp [setL] at h<;>simp [h]
 | [],_,_::_,y,h=>by simp [setL] at h
 | c::cs,0,x::xs,y,h=>by
  simp only [setL,List.mem_cons] at h
  rcases h with h|h
  ·exact .inr (by simp [h])
  ·rcases setL_mem cs 0 xs y h with h|h
   ·exact .inl (by simp [h])
   ·exact .inr (by simp [h])
 | c::cs,n+1,x::xs,y,h=>by
  simp only [setL,List.mem_cons] at h
  rcases h with h|h
  ·exact .inl (by simp [h])
  ·rcases setL_mem cs n (x::xs) y h with h|h
   ·exact .inl (by simp [h])
   ·exact .inr h
theorem AtsR.one {ρ:Nat→Nm} {w:World} {M:Nat→Prop}:∀ {a:List At} {v:List Value},AtsR ρ w M a v→∀ u∈v,u.oneCell'=true
 | [],[],_,u,h=>by cases h
 | a::l,v::vs,h,u,hu=>by
  rcases List.mem_cons.1 hu with rfl|hu
  ·exact At.oneCell h.1
  ·exact AtsR.one h.2 u hu
 | [],_::_,h,_,_=>h.elim
 | _::_,[],h,_,_=>h.elim
theorem st_store (R:Rel C M0 w0 sz ρ E H a w) {t:Nat} {td:TD} (ht:TyOK P t td) {y z:Operand} {n off:Nat} {s:SC} (ho:o.op=.store t y z) (he:ev (look E) y=some (.c (.at (.ptr n off)))) (hz:ev (look E) z=some (.c s))
  {cs:List At} (hb:look H n=some (.own cs)) (hd:o.dst=none) (hs:(cellsC s).length=td.size) (hl:off+td.size≤cs.length) :
  StepOK P C M0 w0 sz E H o (.put n (.own (setL cs off (cellsC s)))) a w:=by
 obtain ⟨h1,h2⟩:=ev_ok R he
 obtain ⟨h3,h4⟩:=ev_ok R hz
 have hv:a.eval y=.pointer (some ⟨(ρ n).b,off,none⟩):=h1.2
 obtain ⟨us,hc,hR⟩:=(R.blk n _ hb).2 rfl
 have hR:AtsR ρ w (Mof M0 ρ H) cs us:=hR
 have hcz:=SCR.cells h3
 have hlen:=hcz.length
 have hlen2:=hR.length
 obtain ⟨w',hr,e1,e2,e3,e4,e5,e6,e7⟩:=run_storeOwn (P:=P) (a.eval z).cells.toList w us off 0 hc (AtsR.one hcz) (by omega)
 rw [Nat.add_zero] at e6
 have hrun:(execOp a.eval o).run P w=.ok .skip w':=by
  have hsz:(a.eval z).cells.size=td.size:=by rw [← hs,← hlen];simp
  simp [execOp,ho,hv,Instr.storeAt,Instr.sureAddr,storeVar,ht.1,hsz,hr]
 refine ok_skip (ρ':=ρ) hrun ?_
 have:apE o.dst (.put n (.own (setL cs off (cellsC s)))) E=E:=by simp [apE]
 rw [this,hd]
 refine R.put hb rfl e1 e2 e3 e4 (.inr (Nat.le_of_eq e7.symm)) e5 e6 (AtsR.setL off hR hcz) trivial (fun m hm => ?_)
 simp only [Blk.names,namesA,List.mem_flatMap] at hm
 obtain ⟨y',hy,hm⟩:=hm
 rcases setL_mem _ _ _ _ hy with hy|hy
 ·exact R.clH n _ hb m (by simp only [Blk.names,namesA,List.mem_flatMap];exact ⟨y',hy,hm⟩)
 ·refine h4 m ?_
  cases s with
  | «at» a=>simp only [cellsC,List.mem_singleton] at hy;subst hy;exact hm
  | agg l=>simp only [SV.names,SC.names,namesA,List.mem_flatMap];exact ⟨y',hy,hm⟩
theorem run_fieldAt {P:Program} {t b off i:Nat} {n:Nat} {z:List D} {fs:List (Nat × Nat × Bool)} (ht:TyOK P t (.st n z fs)) {fo fz:Nat} {fa:Bool} (hf:fs[i]? = some (fo,fz,fa)) (hz:fz≠0) (w:World) :
  (Instr.fieldAt t (.pointer (some ⟨b,off,none⟩)) i).run P w=.ok (.pointer (some ⟨b,off+fo,none⟩)) w:=by
 obtain ⟨F,hF,_,hfs⟩:=ht.2.2.2
 obtain ⟨f,hf1,hf2,hf3,_⟩:=hfs i _ hf
 simp [Instr.fieldAt,run_underlying_of hF,hf1,Instr.sureAddr,fieldPlace,hf3,hz,add_plain,hf2]
theorem st_fieldAddr (R:Rel C M0 w0 sz ρ E H a w) {t:Nat} {n':Nat} {z:List D} {fs:List (Nat × Nat × Bool)} (ht:TyOK P t (.st n' z fs)) {y:Operand} {n off i:Nat} (ho:o.op=.fieldAddr t y i)
  (he:ev (look E) y=some (.c (.at (.ptr n off)))) {fo fz:Nat} {fa:Bool} (hf:fs[i]? = some (fo,fz,fa)) (hz:fz≠0) (h:(retD sz o.dst (.c (.at (.ptr n (off+fo))))).has x):StepOK P C M0 w0 sz E H o x a w:=by
 obtain ⟨d,hd,hlt,rfl⟩:=retD_has h
 obtain ⟨h1,h2⟩:=ev_ok R he
 have hv:a.eval y=.pointer (some ⟨(ρ n).b,off,none⟩):=h1.2
 refine ok_val R (v:=.pointer (some ⟨(ρ n).b,off+fo,none⟩)) ?_ hd hlt ⟨h1.1,rfl⟩ h2
 simp [execOp,ho,hv,run_fieldAt ht hf hz]
theorem st_fieldAddrEl (R:Rel C M0 w0 sz ρ E H a w) {t:Nat} {n':Nat} {z:List D} {fs:List (Nat × Nat × Bool)} (ht:TyOK P t (.st n' z fs)) {y:Operand} {k j off i:Nat} {l:List (List D)} (ho:o.op=.fieldAddr t y i)
  (he:ev (look E) y=some (.c (.at (.ep k l j off)))) {fo fz:Nat} {fa:Bool} (hf:fs[i]? = some (fo,fz,fa)) (hz:fz≠0) (h:(retD sz o.dst (.c (.at (.ep k l j (off+fo))))).has x):StepOK P C M0 w0 sz E H o x a w:=by
 obtain ⟨d,hd,hlt,rfl⟩:=retD_has h
 obtain ⟨⟨b,off0,hv,hrow⟩,h2⟩:=ev_ok R he
 refine ok_val R (v:=.pointer (some ⟨b,off0+j*k+(off+fo),none⟩)) ?_ hd hlt ⟨b,off0,rfl,hrow⟩ (fun n hn=>by simp [SV.names,SC.names,At.names] at hn)
 rw [← Nat.add_assoc]
 simp [execOp,ho,hv,run_fieldAt ht hf hz]
theorem run_part {P:Program} {t:Nat} {agg:Bool} {n off:Nat} {us:List Value} {l:List At} {ρ:Nat→Nm} {M:Nat→Prop} {s:SC} {w':World} (h1:∀ w,(isAgg t).run P w=.ok agg w) (h2:∀ w,(sizeOf t).run P w=.ok n w)
  (hR:AtsR ρ w' M l us) (hp:partA agg l off n=some s) (w:World):∃ v,(part t us.toArray off).run P w=.ok v w∧SCR ρ w' M s v:=by
 rcases partA_some hp with ⟨ha,hl,rfl⟩|⟨ha,u,hu,rfl⟩
 ·refine ⟨.agg ((us.drop off).take n).toArray,?_,_,rfl,(hR.drop off).take _⟩
  simp only [part,Sem.run_bind,h1,ha,Result.andThen_ok,if_true,h2,Sem.run_pure]
  congr 2
  apply Array.ext'
  simp [List.extract_eq_take_drop]
 ·obtain ⟨v,hv1,hv2⟩:=hR.get off u hu
  refine ⟨v,?_,hv2⟩
  simp [part,h1,ha,hv1]
theorem st_field (R:Rel C M0 w0 sz ρ E H a w) {t:Nat} {n':Nat} {z:List D} {fs:List (Nat × Nat × Bool)} (ht:TyOK P t (.st n' z fs)) {y:Operand} {i:Nat} {l:List At} (ho:o.op=.field t y i)
  (he:ev (look E) y=some (.c (.agg l))) {fo fz:Nat} {fa:Bool} (hf:fs[i]? = some (fo,fz,fa)) {s:SC} (hp:partA fa l fo fz=some s) (h:(retD sz o.dst (.c s)).has x):StepOK P C M0 w0 sz E H o x a w:=by
 obtain ⟨d,hd,hlt,rfl⟩:=retD_has h
 obtain ⟨⟨vs,hv,hR⟩,h2⟩:=ev_ok R he
 obtain ⟨F,hF,_,hfs⟩:=ht.2.2.2
 obtain ⟨f,hf1,hf2,hf3,hf4⟩:=hfs i _ hf
 obtain ⟨v,hr,hs⟩:=run_part hf4 hf3 hR hp w
 refine ok_val R (v:=v) ?_ hd hlt hs (fun m hm=>h2 m (partA_names hp m hm))
 simp [execOp,ho,hv,Instr.field,run_underlying_of hF,hf1,asAgg,hf2,hr]
theorem st_nil (R:Rel C M0 w0 sz ρ E H a w) {y:Operand} {n off:Nat} (ho:o.op=.nilCheck y) (he:ev (look E) y=some (.c (.at (.ptr n off)))) (h:(retD sz o.dst (.c (.at (.ptr n off)))).has x):StepOK P C M0 w0 sz E H o x a w:=by
 obtain ⟨d,hd,hlt,rfl⟩:=retD_has h
 obtain ⟨h1,h2⟩:=ev_ok R he
 have hv:a.eval y=.pointer (some ⟨(ρ n).b,off,none⟩):=h1.2
 refine ok_val R (v:=a.eval y) ?_ hd hlt h1 h2
 simp [execOp,ho,hv]
theorem st_nilEl (R:Rel C M0 w0 sz ρ E H a w) {y:Operand} {k i off:Nat} {l:List (List D)} (ho:o.op=.nilCheck y) (he:ev (look E) y=some (.c (.at (.ep k l i off)))) (h:(retD sz o.dst (.c (.at (.ep k l i off)))).has x):StepOK P C M0 w0 sz E H o x a w:=by
 obtain ⟨d,hd,hlt,rfl⟩:=retD_has h
 obtain ⟨h1,h2⟩:=ev_ok R he
 obtain ⟨b,off0,hv,hrow⟩:=id h1
 refine ok_val R (v:=a.eval y) ?_ hd hlt h1 h2
 simp [execOp,ho,hv]
end
end Sx
end Go.Proofs.YtddbmpbihpkabaaGreat
