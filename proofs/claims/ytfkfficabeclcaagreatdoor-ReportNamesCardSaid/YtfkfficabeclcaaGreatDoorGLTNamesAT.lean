import Derived.Test.YtfkfficabeclcaaGreatDoorGLTNamesAS
import Derived.RangeFuncBox
import Derived.Test.YtfkfficabeclcaaGreatDoorGLTNamesAP
import Derived.Test.YtfkfficabeclcaaGreatDoorGLTNamesAQ
set_option linter.all false
namespace Go.Proofs.YtfkfficabeclcaaGreatDoor
open Go Go.RowKit Go.Sort Sx
theorem KeepT.putObj {n0:Nat} {W:World} {l:Nat} {o:Obj} (o':Obj) (hn:n0≤l) (hl:W.heap[l]? = some o) (ho:o.isCells=false):KeepT n0 W (W.putObj l o') :=
 ⟨by simp,fun k hk=>World.putObj_heap_other (by omega),fun k cs T fr h _=>World.putObj_heap_other fun e=>by
  subst e;rw [hl] at h;injection h with h;subst h;cases ho⟩
theorem wpIn_rangeAll {P:Program} {α:Type} {g:Operand} {ps:Array Tmp} {assign body:Code} {Q:Exit→Act→World→Prop} {a:Act} {w w0:World} {n n0:Nat} (h1:1≤n) {gf:Nat} {lb:Array Value} (hg:a.eval g=.func (.func gf) #[] lb)
  (eg:∀ args w,(callFunc gf args).run P w=.ok (.enter gf args) w) {encs:α→Array Value} {xs:List α} (hseq:SeqAll (n-1) P gf lb encs (KeepT n0) xs w0) (hb0:Below w0.heap.size w0 w) (hn0:n0≤w.heap.size) (hps:∀ x,(encs x).size=ps.size)
  (I:List α→World→Prop) (hI:OwnFrom w.heap.size I) (h0:I [] w) (As:List α→α→Act→World→Prop) (hAs:∀ x a₁,OwnFrom w.heap.size fun pre W=>As pre x a₁ W)
  (hassign:∀ (lp:Nat) (pre:List α) (x:α) (W:World),x∈xs→pre.length<xs.length→I pre W→assign.wpIn (Fence.wide.inRound lp) (n-1-1) P (Exit.then (fun a₁ W1=>KeepsOthers W W1∧KeepT n0 W W1∧As pre x a₁ W1) (fun _ _ _=>False)) { tmps:=(ps.zip (encs x)).foldl (fun t (p,v)=>t.setIfInBounds p v) a.tmps,defers:=[] } W)
  (hbody:∀ (lp:Nat) (pre:List α) (x:α) (a₁:Act) (W:World),As pre x a₁ W→body.wpIn (Fence.wide.inRound lp) (n-1-1) P (fun ex _ W'=>ex=.normal∧KeepsOthers W W'∧KeepT n0 W W'∧I (pre++[x]) W') a₁ W)
  (hdone:∀ (D:Nat) (W:World),w.heap.size≤D→I xs W→W.heap[D]? = some (.deferred (some []))→Q .normal { a with defers:={ target:=.collected D,args:=#[] }::a.defers } W) :
  (Code.rangeFunc g ps assign body).wpIn Fence.wide n P Q a w:=by
 refine wpIn_rangeFunc fun fn hfn => ?_
 obtain ⟨L,hL⟩:∃ L:LoopState→Option Code→Obj,L=fun st pe=>.loop { state:=st,pending:=pe,fn,tmps:=a.tmps,params:=ps,assign,body,defers:=w.heap.size }:=⟨_,rfl⟩
 have hLc:∀ st pe,(L st pe).isCells=false:=fun st pe=>by rw [hL];rfl
 have hLw:∀ st pe,(L st pe).isWalk=false:=fun st pe=>by rw [hL];rfl
 obtain ⟨W1,hW1⟩:∃ W1,W1=(w.alloc (.deferred (some []))).alloc (L .ready none):=⟨_,rfl⟩
 have s1:W1.heap.size=w.heap.size+2:=by rw [hW1];simp
 have g1:W1.heap[w.heap.size+1]? = some (L .ready none):=by rw [hW1];have:=World.alloc_heap_new (w.alloc (.deferred (some []))) (L .ready none);rwa [World.size_alloc] at this
 have g2:W1.heap[w.heap.size]? = some (.deferred (some [])):=by rw [hW1];exact (Below.heap_alloc _ _ _ (by simp)).trans (World.alloc_heap_new w _)
 have i1:I [] W1:=by rw [hW1];exact hI.alloc _ (hI.alloc _ h0)
 have b1:Below w0.heap.size w0 W1:=by
  rw [hW1];exact hb0.trans ((((Below.refl _ w).alloc (Nat.le_refl _) _).alloc (by simp) _).mono hb0.size)
 refine ⟨w.heap.size+1,[{ target:=.collected w.heap.size,args:=#[] }],W1,{ target:=.fn (.func gf) lb,args:=#[.func (.yield (w.heap.size+1)) #[] #[]] },W1,gf,#[.func (.yield (w.heap.size+1)) #[] #[]]++lb,W1,?_,?_,fun f' _=>trivial,?_,fun _=>h1,?_⟩
 ·have:=run_enterLoop_outer (P:=P) (w:=w) fn a.tmps ps assign body
  rw [hW1,hL];exact this
 ·simp only [resolve,hg];simp [go_sem]
 ·simp [invoke,go_sem,eg]
 have keep:∀ {A B:World} {row:Option Nat},A.grownBy B row→(∀ r,row=some r→W1.heap.size≤r)→∀ k o,k<W1.heap.size→A.heap[k]? = some o→B.heap[k]? = some o:=fun hg hr k o hk h =>
  (hg.block k (Array.getElem?_eq_some_iff.1 h).1 fun e=>by have:=hr k e.symm;omega).trans h
 refine (hseq (w.heap.size+1) (fun pre W=>I pre W∧W.heap[w.heap.size+1]? = some (L .ready none)∧W.heap[w.heap.size]? = some (.deferred (some []))) W1 b1
  (fun s A B row hs hg' hr=>⟨hI s A B row hs.1 hg' (fun r e=>⟨by have:=(hr r e).1;omega,by obtain ⟨_,o,h2,h3⟩:=hr r e;exact ⟨o,h2,Obj.not_cells_of_walk h3⟩⟩),keep hg' (fun r e=>(hr r e).1) _ _ (by omega) hs.2.1,keep hg' (fun r e=>(hr r e).1) _ _ (by omega) hs.2.2⟩)
  ?_ ⟨i1,g1,g2⟩).mono ?_
 ·rintro pre x post W hpost ⟨hi,hl,hk⟩
  have hxs:x∈xs:=by rw [← hpost];simp
  have hpl:pre.length<xs.length:=by rw [← hpost];simp
  have hlw:w.heap.size+1<W.heap.size:=(Array.getElem?_eq_some_iff.1 hl).1
  have hl':W.heap[w.heap.size+1]? = some (.loop { state:=.ready,pending:=none,fn,tmps:=a.tmps,params:=ps,assign,body,defers:=w.heap.size }):=by rw [hl,hL]
  have hy:=run_yield (P:=P) (args:=encs x) hl' (hps x)
  refine ⟨fn,_,assign,body,hy,roundIn_of_wpIn hfn (wpIn_mono (hassign _ pre x W hxs hpl hi) ?_)⟩
  rintro e a₁ W2 hp
  cases e with
  | normal =>
   obtain ⟨k1,k2,k3⟩:=hp
   have hl2:=k1.same _ _ hl (hLc _ _)
   have hk2:=k1.same _ _ hk rfl
   have hl2':W2.heap[w.heap.size+1]? = some (.loop { state:=.ready,pending:=none,fn,tmps:=a.tmps,params:=ps,assign,body,defers:=w.heap.size }):=by rw [hl2,hL]
   have hb:=run_beginRound (P:=P) hl2' rfl
   obtain ⟨W3,hW3⟩:∃ W3,W3=W2.putObj (w.heap.size+1) (L .busy none):=⟨_,rfl⟩
   have hl3:W3.heap[w.heap.size+1]? = some (L .busy none):=by rw [hW3];exact World.putObj_heap_same (Array.getElem?_eq_some_iff.1 hl2).1
   have hk3:W3.heap[w.heap.size]? = some (.deferred (some [])):=by rw [hW3];exact (World.putObj_heap_other (by omega)).trans hk2
   have ka3:As pre x a₁ W3:=by rw [hW3];exact (hAs x a₁).putObj _ k3 (by omega) hl2 (hLc _ _)
   have kt3:KeepT n0 W W3:=k2.trans (by rw [hW3];exact KeepT.putObj _ (by omega) hl2 (hLc _ _))
   refine ⟨W3,by rw [hW3,hL];exact hb,wpIn_mono (hbody _ pre x a₁ W3 ka3) ?_⟩
   rintro e a₂ W4 ⟨rfl,q1,q2,q3⟩
   have hl4:=q1.same _ _ hl3 (hLc _ _)
   have hk4:=q1.same _ _ hk3 rfl
   have hl4':W4.heap[w.heap.size+1]? = some (.loop { state:=.busy,pending:=none,fn,tmps:=a.tmps,params:=ps,assign,body,defers:=w.heap.size }):=by rw [hl4,hL]
   have he:=run_endRound (P:=P) none hl4'
   refine ⟨_,_,he,rfl,⟨hI.putObj _ q3 (by omega) hl4 (hLc _ _),?_,(World.putObj_heap_other (by omega)).trans hk4⟩,(kt3.trans q2).trans (KeepT.putObj _ (by omega) hl4 (hLc _ _))⟩
   rw [World.putObj_heap_same (Array.getElem?_eq_some_iff.1 hl4).1,hL];rfl
  | ret=>exact hp.elim
  | exit id=>exact hp.elim
  | goto t=>exact hp.elim
  | panic ch=>exact hp.elim
  | outgrown=>exact hp.elim
 ·rintro e W2 ⟨⟨v,rfl⟩,hi,hl,hk⟩
  have hl':W2.heap[w.heap.size+1]? = some (.loop { state:=.ready,pending:=none,fn,tmps:=a.tmps,params:=ps,assign,body,defers:=w.heap.size }):=by rw [hl,hL]
  exact ⟨none,_,run_endLoop (P:=P) hl' (by simp),hdone _ _ (Nat.le_refl _) (hI.putObj _ hi (by omega) hl (hLc _ _)) ((World.putObj_heap_other (by omega)).trans hk)⟩
theorem mpairs_in (n:Nat) (fv:Value) (w:World) (h1:fv.oneCell'=true):CallsIn Fence.wide n Tryz.prog 202 #[.agg #[fv]] w fun e w'=>e=.returned (.func (.func 237) #[] #[.pointer (some ⟨w.heap.size,0,none⟩)])∧w'=w.alloc (.cells #[fv] 39):=by
 refine callsIn_of_wp Tryz.func202 rfl trivial ?_ rfl
 simp only [Tryz.ntmps202,List.size_toArray,List.length_cons,List.length_nil,Nat.reduceAdd,Nat.reduceSub,Array.replicate_succ,Array.replicate_zero,List.push_toArray,List.append_toArray,List.nil_append,List.cons_append]
 gi_wp2
 first|go_ret|refine bodyPost_ret (results_tmp rfl _ _ _) rfl ?_|refine bodyPost_end (results_tmp rfl _ _ _) rfl ?_
 exact ⟨rfl,rfl⟩
end Go.Proofs.YtfkfficabeclcaaGreatDoor

namespace Go.Proofs.YtfkfficabeclcaaGreatDoor
open Go Go.RowKit Go.Sort Sx
def meet1 (pq:Pt × Pt):Option Mt :=
 let v:=meetV pq.1.id pq.1.a pq.1.b pq.2.id pq.2.a pq.2.b
 if v.2.2=0 then some ⟨v.1,v.2.1,pq.1.id,pq.2.id⟩ else none
def Mt.vals (m:Mt):List Value:=[.int .i64 m.n,.int .i64 m.d,.int .i64 m.i,.int .i64 m.j]
def outs (l:List (Pt × Pt)):List Mt:=l.filterMap meet1
theorem outs_snoc (l:List (Pt × Pt)) (x:Pt × Pt):outs (l++[x])=outs l++(meet1 x).toList:=by
 unfold outs;rw [List.filterMap_append];congr 1
abbrev OutI (w:World) (pre:List (Pt × Pt)) (W:World):Prop :=
 (∃ v,Boxed W (w.heap.size+1) 26 v∧W.ownsRow w.heap.size 31 4 v (outs pre).length ((outs pre).flatMap Mt.vals)∧True)∧Below w.heap.size w W
def OutA (w:World) (T:Array Value) (pre:List (Pt × Pt)) (x:Pt × Pt) (a:Act) (W:World):Prop :=
 (WDC x.1.dc∧WDC x.2.dc∧pre.length≤10000)∧OutI w pre W∧∃ bp bq,a={ tmps:=T.setIfInBounds 10 x.1.v |>.setIfInBounds 11 x.2.v |>.setIfInBounds 4 (.pointer (some ⟨bp,0,none⟩)) |>.setIfInBounds 5 (.pointer (some ⟨bq,0,none⟩)),defers:=[] } ∧
  W.heap[bp]? = some (.cells #[.int .i64 x.1.id,.int .i64 x.1.a,.int .i64 x.1.b] 43 (0,0))∧W.heap[bq]? = some (.cells #[.int .i64 x.2.id,.int .i64 x.2.a,.int .i64 x.2.b] 43 (0,0))∧w.heap.size≤bp∧w.heap.size≤bq
theorem outI_from (w:World) (B:Nat) (hB:w.heap.size≤B):OwnFrom B (OutI w) :=
 ((holdsRow_own w.heap.size (w.heap.size+1) 26 31 4 (fun pre=>(outs pre).length) (fun pre=>(outs pre).flatMap Mt.vals) (fun _ _=>True)).from B).and (ownFrom_below (Nat.le_refl _) hB)
theorem outA_from (w:World) (T:Array Value) (B:Nat) (hB:w.heap.size≤B) (x:Pt × Pt) (a:Act):OwnFrom B (fun pre W=>OutA w T pre x a W):=by
 rintro pre W W' row ⟨h0,h1,bp,bq,h2,h3,h4,h5,h6⟩ hg hr
 have keep:∀ {k:Nat} {cs:Array Value} {t:TypeId},W.heap[k]? = some (.cells cs t (0,0))→W'.heap[k]? = some (.cells cs t (0,0)):=fun {k cs t} h=>(hg.block k (Array.getElem?_eq_some_iff.1 h).1 fun e=>by
  obtain ⟨_,o,ho,hc⟩:=hr k e.symm
  rw [h] at ho;cases ho;cases hc).trans h
 exact ⟨h0,outI_from w B hB pre W W' row h1 hg hr,bp,bq,h2,keep h3,keep h4,h5,h6⟩
theorem kMeet_in {n lp:Nat} (p q:Pt) (w:World) (hg:Gd w) (hp:WDC p.dc) (hq:WDC q.dc):CallsIn (Fence.wide.inRound lp) n Tryz.prog 203 #[p.v,q.v] w fun e w'=>e=.returned (.tuple #[.agg #[.int .i64 (meetV p.id p.a p.b q.id q.a q.b).1,.int .i64 (meetV p.id p.a p.b q.id q.a q.b).2.1],.int .i64 (meetV p.id p.a p.b q.id q.a q.b).2.2])∧Below w.heap.size w w':=by
 refine CallsIn.inRound lp (callsIn_wide.2 ?_)
 exact calls_of_fn (P:=Tryz.prog) (fun _ _=>Tryz.call203 _ _) (args:=[p.dc,q.dc]) (vals:=[p.v,q.v]) rfl rfl ⟨hp,hq,trivial⟩ (kMeet_fn p.id p.a p.b q.id q.a q.b) w hg
theorem pairs_mem:∀ {l:List Pt} {p q:Pt},(p,q)∈pairsOf l→p∈l∧q∈l
 | [],p,q,h=>by simp [pairsOf] at h
 | x::l,p,q,h=>by
  simp only [pairsOf,List.mem_append,List.mem_map,Prod.mk.injEq] at h
  rcases h with ⟨y,hy,rfl,rfl⟩|h
  ·exact ⟨List.mem_cons_self ..,List.mem_cons_of_mem _ hy⟩
  ·obtain ⟨h1,h2⟩:=pairs_mem h
   exact ⟨List.mem_cons_of_mem _ h1,List.mem_cons_of_mem _ h2⟩
theorem pairs_len:∀ (l:List Pt),(pairsOf l).length≤l.length*l.length
 | []=>by simp [pairsOf]
 | x::l=>by
  have:=pairs_len l
  simp only [pairsOf,List.length_append,List.length_map,List.length_cons,Nat.add_mul,Nat.mul_add];omega
theorem outs_len (pre:List (Pt × Pt)):(outs pre).length≤pre.length:=List.length_filterMap_le ..
theorem KeepT.of_grownBy {n0:Nat} {W W':World} {row:Option Nat} (hg:W.grownBy W' row) (hr:∀ r,row=some r→n0≤r∧∃ cs T fr,W.heap[r]? = some (.cells cs T fr)∧T≠43∧T≠39) (hn:n0≤W.heap.size):KeepT n0 W W' :=
 ⟨hg.size,fun k hk=>hg.block k (by omega) fun e=>by have:=(hr k e.symm).1;omega,fun k cs T fr hk hT=>hg.block k (Array.getElem?_eq_some_iff.1 hk).1 fun e=>by
  obtain ⟨_,cs',T',fr',h1,h2,h3⟩:=hr k e.symm
  rw [hk] at h1;injection h1 with h1;injection h1 with _ h1 _
  subst h1
  rcases hT with h|h
  ·exact h2 h
  ·exact h3 h⟩
theorem grownBy_of_below {W W':World} (h:Below W.heap.size W W'):W.grownBy W' none:=⟨h.os,h.tape,h.output,h.size,fun k hk _=>h.block k hk⟩
theorem KeepT.of_below {n0:Nat} {W W':World} (h:Below W.heap.size W W') (hn:n0≤W.heap.size):KeepT n0 W W' :=
 ⟨h.size,fun k hk=>h.block k (by omega),fun k cs T fr hk _=>h.block k (Array.getElem?_eq_some_iff.1 hk).1⟩
theorem KeepsOthers.of_below {W W':World} (h:Below W.heap.size W W'):KeepsOthers W W' :=
 ⟨h.size,fun k o hk _=>(h.block k (Array.getElem?_eq_some_iff.1 hk).1).trans hk⟩
theorem box3 {W:World} {b:Nat} {x y z:Value} {t:TypeId} (h:W.heap[b]? = some (.cells #[x,y,z] t (0,0))):W.cell? ⟨b,0,none⟩=some x∧W.cell? ⟨b,1,none⟩=some y∧W.cell? ⟨b,2,none⟩=some z:=by
 refine ⟨?_,?_,?_⟩<;>simp [World.cell?,h]
theorem mt_ds {w:World} {M:Nat→Prop}:∀ {l:List Mt},(∀ m∈l,m.ok)→DsR w M (l.map Mt.c).flatten (l.flatMap Mt.vals)
 | [],_=>trivial
 | m::l,h=>by
  obtain ⟨h1,h2,h3,h4,h5⟩:=h m (List.mem_cons_self ..)
  have h6:=((chk_iff _ _).1 h1).1
  have ih:=mt_ds (w:=w) (M:=M) (l:=l) fun x hx=>h x (List.mem_cons_of_mem _ hx)
  rw [List.map_cons,List.flatten_cons,List.flatMap_cons]
  refine DsR.append ?_ ih
  have key:∀ x:Int,-9223372036854775808≤x∧x≤9223372036854775807→Rep w M (i64 x) (.int .i64 x):=fun x hx=>.v _ rfl hx
  exact ⟨key _ h2,key _ (by omega),key _ h4,key _ h5,trivial⟩
theorem row_of_owns {W:World} {n0:Nat} {v:Value} {l:List Mt} (h:W.ownsRow n0 31 4 v l.length (l.flatMap Mt.vals)) (hok:∀ m∈l,m.ok) :
  ∃ m:Nm,BlkR (fun _=>m) W (fun b=>0<m.cap∧b=m.b) m (.row 4 (l.map Mt.c) m.ver)∧(∃ x,v=.slice x m.len m.cap∧(0<m.cap→x=some ⟨m.b,0,none⟩))∧(0<m.cap→n0≤m.b∧∃ cs,W.heap[m.b]? = some (.cells cs 31 (0,0))):=by
 have hk:∀ x∈l.map Mt.c,x.length=4:=fun x hx=>by
  obtain ⟨m,_,rfl⟩:=List.mem_map.1 hx;rfl
 rcases h.2 with ⟨rfl,h0⟩|⟨g,cap,cur,rfl,hb,hgb,h1,h2,h3,h4⟩
 ·have hl0:l=[]:=List.eq_nil_of_length_eq_zero h0
  subst hl0
  exact ⟨⟨false,0,0,0,0⟩,⟨⟨by simp,rfl,fun _=>rfl,rfl,rfl⟩,fun h=>by simp [Blk.real] at h⟩,⟨none,rfl,fun h=>absurd h (Nat.lt_irrefl _)⟩,fun h=>absurd h (Nat.lt_irrefl _)⟩
 ·have hsz:cur.toList.length=cap*4:=by simpa using h3
  refine ⟨⟨false,g,cap,l.length,0⟩,⟨⟨hk,by simp,fun h => ?_,rfl,rfl⟩,fun _=>⟨cur.toList,⟨31,by simpa using hgb⟩,by simpa using h1,h2,hsz,l.flatMap Mt.vals,cur.toList.drop (l.length*4),?_,mt_ds hok⟩⟩,⟨_,rfl,fun _=>rfl⟩,fun _=>⟨hb,_,hgb⟩⟩
  ·have h:cap=0:=h
   have:l.length=0:=by omega
   rw [List.eq_nil_of_length_eq_zero this];rfl
  ·rw [← h4,List.take_append_drop]
theorem blk_flat {ρ:Nat→Nm} {w:World} {M M':Nat→Prop} {m:Nm} {k v:Nat} {l:List (List Sx.D)} (hf:flatL l.flatten=true) (h:BlkR ρ w M m (.row k l v)):BlkR ρ w M' m (.row k l v):=by
 refine ⟨h.1,fun hr => ?_⟩
 obtain ⟨cs,hc,c1,c2,c3,vs,rest,c4,c5⟩:=h.2 hr
 exact ⟨cs,hc,c1,c2,c3,vs,rest,c4,flatL_rel hf c5⟩
theorem zip2 (a b:Tmp) (x y:Value) (t:Array Value):((#[a,b]:Array Tmp).zip #[x,y]).foldl (fun t (p,v)=>t.setIfInBounds p v) t=(t.setIfInBounds a x).setIfInBounds b y:=by
 have e:(#[a,b]:Array Tmp).zip #[x,y]=#[(a,x),(b,y)]:=by apply Array.ext';simp
 rw [e];simp
theorem body_facts {n0 O bp bq k:Nat} {W W1:World} {p q:Pt} {v:Value} {xs:List Value} (mn md:Int) (hB1:Below W.heap.size W W1) (hWs:n0≤W.heap.size) (hbx:Boxed W O 26 v) (hrow:W.ownsRow n0 31 4 v k xs)
  (hp:W.heap[bp]? = some (.cells #[.int .i64 p.id,.int .i64 p.a,.int .i64 p.b] 43 (0,0))) (hq:W.heap[bq]? = some (.cells #[.int .i64 q.id,.int .i64 q.a,.int .i64 q.b] 43 (0,0))) :
  Boxed ((W1.alloc (.cells #[.int .i64 mn,.int .i64 md] 25))) O 26 v∧((W1.alloc (.cells #[.int .i64 mn,.int .i64 md] 25))).ownsRow n0 31 4 v k xs∧((W1.alloc (.cells #[.int .i64 mn,.int .i64 md] 25))).cell? ⟨O,0,none⟩=some v∧((W1.alloc (.cells #[.int .i64 mn,.int .i64 md] 25))).cell? ⟨bp,0,none⟩=some (.int .i64 p.id)∧((W1.alloc (.cells #[.int .i64 mn,.int .i64 md] 25))).cell? ⟨bq,0,none⟩=some (.int .i64 q.id) ∧
  (∀ (j:Nat) (u:Value),([.int .i64 mn,.int .i64 md,.int .i64 p.id,.int .i64 q.id]:List Value)[j]? = some u→(((W1.alloc (.cells #[.int .i64 mn,.int .i64 md] 25))).alloc (.cells #[.int .i64 mn,.int .i64 md,.int .i64 p.id,.int .i64 q.id] 31)).cell? ((⟨W1.heap.size+1,0,none⟩:Addr).add j)=some u) ∧
  n0≤(((W1.alloc (.cells #[.int .i64 mn,.int .i64 md] 25))).alloc (.cells #[.int .i64 mn,.int .i64 md,.int .i64 p.id,.int .i64 q.id] 31)).heap.size∧((W1.alloc (.cells #[.int .i64 mn,.int .i64 md] 25))).heap.size=W1.heap.size+1:=by
 have hg1:=grownBy_of_below (hB1.trans ((Below.refl _ W1).alloc hB1.size (.cells #[.int .i64 mn,.int .i64 md] 25)))
 have hbx2:Boxed ((W1.alloc (.cells #[.int .i64 mn,.int .i64 md] 25))) O 26 v:=hbx.kept hg1 (by simp)
 have hXs:((W1.alloc (.cells #[.int .i64 mn,.int .i64 md] 25))).heap.size=W1.heap.size+1:=by simp
 refine ⟨hbx2,hrow.kept hg1 (by cases hv:v.ownBlock<;>simp),hbx2.cell,(box3 ((hg1.block bp (Array.getElem?_eq_some_iff.1 hp).1 (by simp)).trans hp)).1,(box3 ((hg1.block bq (Array.getElem?_eq_some_iff.1 hq).1 (by simp)).trans hq)).1,fun j u hj => ?_,?_,hXs⟩
 ·have hn:=World.alloc_heap_new ((W1.alloc (.cells #[.int .i64 mn,.int .i64 md] 25))) (.cells #[.int .i64 mn,.int .i64 md,.int .i64 p.id,.int .i64 q.id] 31)
  rw [hXs] at hn
  rw [Sx.add_plain,Nat.zero_add]
  simp only [World.cell?,hn]
  simpa using hj
 ·have:=hB1.size
  rw [World.size_alloc,hXs];omega
set_option maxRecDepth 100000 in
set_option maxHeartbeats 4000000 in
theorem mall_in (n : Nat) (l : List Pt) (fv : Value) (w : World) (hg0 : Gd w) (M : Nat → Prop) (hM : ∀ b, M b → b < w.heap.size) (hrep : Rep w M (.list 3 (l.map Pt.c)) fv) (hl : l.length ≤ 64) (hok : ∀ m ∈ outs (pairsOf l), m.ok) (hn : 4 ≤ n) :
    CallsIn Fence.wide n Tryz.prog 156 #[.agg #[fv]] w fun e w' => ∃ v, e = .returned v ∧ Rep w' M (.list 4 ((msrt (outs (pairsOf l))).map Mt.c)) v ∧ Below w.heap.size w w' := by
  have hn1 : 1 ≤ n := by omega
  have hn2 : 1 ≤ n - 1 := by omega
  have hn3 : 1 ≤ n - 1 - 1 := by omega
  have hf1 : Fence.wide.fn 202 := trivial
  have h1 : fv.oneCell' = true := Rep.one hrep
  have hwd : ∀ p ∈ l, WDC p.dc := fun p hp => by
    have := WD_list.1 hrep.wd
    have h := this.2.2 p.c (List.mem_map_of_mem hp)
    exact ⟨h _ (by simp [Pt.c]), h _ (by simp [Pt.c]), h _ (by simp [Pt.c]), trivial⟩
  refine callsIn_of_wp_marks Tryz.func156 rfl trivial ?_ rfl
  simp only [Tryz.ntmps156, List.size_toArray, List.length_cons, List.length_nil, Nat.reduceAdd, Nat.reduceSub, Array.replicate_succ, Array.replicate_zero, List.push_toArray, List.append_toArray, List.nil_append, List.cons_append]
  gi_wp2_with (gi_at_call 202; (with_reducible refine CallsIn.mono (mpairs_in _ fv _ h1) ?_); rintro e w1 ⟨rfl, rfl⟩)
  obtain ⟨W0, hW0⟩ : ∃ W0, W0 = ((w.alloc (.cells #[fv] 39)).alloc (.cells #[.slice none 0 0] 26)).alloc (.cells #[fv] 39) := ⟨_, rfl⟩
  have hB0 : Below w.heap.size w W0 := by rw [hW0]; exact (((Below.refl _ w).alloc (Nat.le_refl _) _).alloc (by simp) _).alloc (by simp; omega) _
  have hs0 : W0.heap.size = w.heap.size + 3 := by rw [hW0]; simp
  have hb0 : Boxed W0 (w.heap.size + 1) 26 (.slice none 0 0) := by
    rw [hW0]
    have := Boxed.new (w.alloc (.cells #[fv] 39)) 26 (.slice none 0 0)
    rw [World.size_alloc] at this
    exact this.alloc _
  have hc0 : W0.heap[w.heap.size + 2]? = some (.cells #[fv] 39 (0, 0)) := by
    rw [hW0]
    have := World.alloc_heap_new ((w.alloc (.cells #[fv] 39)).alloc (.cells #[.slice none 0 0] 26)) (.cells #[fv] 39 (0, 0))
    simpa using this
  have hr0 : Rep W0 (fun b => w.heap.size ≤ b) (.list 3 (l.map Pt.c)) fv := hrep.mono (Holds.of_below hB0) (fun b hb hM => absurd hM (by omega))
  rw [← hW0]
  obtain ⟨T, hT⟩ : ∃ T : Array Value, T = #[.agg #[fv], .pointer (some ⟨w.heap.size, 0, none⟩), .slice none 0 0, .pointer (some ⟨w.heap.size + 1, 0, none⟩), undef, undef, undef, undef, .agg #[fv], .func (.func 237) #[] #[.pointer (some ⟨w.heap.size + 2, 0, none⟩)], undef, undef, undef, undef, undef, undef, undef, undef, undef, undef, undef, undef, undef, undef, undef, undef, undef, undef, undef, undef, undef, undef] := ⟨_, rfl⟩
  refine wpIn_rangeAll (n0 := w.heap.size) (w0 := W0) (xs := pairsOf l) (α := Pt × Pt) (encs := fun pq => #[pq.1.v, pq.2.v]) hn1 (gf := 237) (lb := #[.pointer (some ⟨w.heap.size + 2, 0, none⟩)]) rfl (fun _ _ => Tryz.call237 _ _)
    (pairs1_stops l w.heap.size (n - 1) (w.heap.size + 2) fv W0 (by omega) hc0 hr0 (by omega) hn2) (Below.refl _ _) (by omega) (fun _ => rfl) (OutI w) (outI_from w _ (by omega)) ⟨⟨_, hb0, ⟨rfl, .inl ⟨rfl, rfl⟩⟩, trivial⟩, hB0⟩
    (OutA w T) (fun x a => outA_from w T _ (by omega) x a) ?_ ?_ ?_
  · rintro lp pre ⟨p, q⟩ W hmem hpl hI
    have hBW := hI.2
    rw [zip2]
    show Code.wpIn _ _ _ _ _ { tmps := #[Value.agg #[fv], Value.pointer (some ⟨w.heap.size, 0, none⟩), Value.slice none 0 0, Value.pointer (some ⟨w.heap.size + 1, 0, none⟩), undef, undef, undef, undef, Value.agg #[fv], Value.func (.func 237) #[] #[.pointer (some ⟨w.heap.size + 2, 0, none⟩)], Value.agg #[.int .i64 p.id, .int .i64 p.a, .int .i64 p.b], Value.agg #[.int .i64 q.id, .int .i64 q.a, .int .i64 q.b], undef, undef, undef, undef, undef, undef, undef, undef, undef, undef, undef, undef, undef, undef, undef, undef, undef, undef, undef, undef], defers := [] } W
    gi_wp2_with (rw [Oper.semAt_eq _ _ _ (fun c h => by cases h)]; go_simp; try go_bits)
    have hWs : w.heap.size ≤ W.heap.size := hBW.size
    refine ⟨(KeepsOthers.alloc W _).trans (KeepsOthers.alloc _ _), (KeepT.alloc W _ hWs).trans (KeepT.alloc _ _ (by simp; omega)), ⟨hwd p (pairs_mem hmem).1, hwd q (pairs_mem hmem).2, by have h := pairs_len l; have : l.length * l.length ≤ 64 * 64 := Nat.mul_le_mul hl hl; omega⟩, (outI_from w _ (Nat.le_refl _)).alloc _ ((outI_from w _ (Nat.le_refl _)).alloc _ hI), W.heap.size, W.heap.size + 1, ?_, ?_, ?_, hWs, by omega⟩
    · rw [hT]; rfl
    · exact (Below.heap_alloc _ _ _ (by simp)).trans (World.alloc_heap_new W _)
    · have := World.alloc_heap_new (W.alloc (.cells #[.int .i64 p.id, .int .i64 p.a, .int .i64 p.b] 43)) (.cells #[.int .i64 q.id, .int .i64 q.a, .int .i64 q.b] 43 (0, 0))
      rwa [World.size_alloc] at this
  · rintro lp pre ⟨p, q⟩ a1 W ⟨⟨wp, wq, hpl⟩, hI, bp, bq, rfl, hp, hq, gp, gq⟩
    rw [hT]
    show Code.wpIn _ _ _ _ _ { tmps := #[Value.agg #[fv], Value.pointer (some ⟨w.heap.size, 0, none⟩), Value.slice none 0 0, Value.pointer (some ⟨w.heap.size + 1, 0, none⟩), Value.pointer (some ⟨bp, 0, none⟩), Value.pointer (some ⟨bq, 0, none⟩), undef, undef, Value.agg #[fv], Value.func (.func 237) #[] #[.pointer (some ⟨w.heap.size + 2, 0, none⟩)], Value.agg #[.int .i64 p.id, .int .i64 p.a, .int .i64 p.b], Value.agg #[.int .i64 q.id, .int .i64 q.a, .int .i64 q.b], undef, undef, undef, undef, undef, undef, undef, undef, undef, undef, undef, undef, undef, undef, undef, undef, undef, undef, undef, undef], defers := [] } W
    obtain ⟨⟨v, hbx, hrow, _⟩, hBW⟩ := id hI
    obtain ⟨p0, p1, p2⟩ := box3 hp
    obtain ⟨q0, q1, q2⟩ := box3 hq
    have hf2 : Fence.wide.fn 203 := trivial
    obtain ⟨e, he, hsz, _, _, ti, z, hi0, hsz0, hz0, hzs, _, hby⟩ := (ty_ok 26 (.sl 4 true [.v (.int .i64 0), .v (.int .i64 0), .v (.int .i64 0), .v (.int .i64 0)]) rfl).2.2.2
    have hee : e = 31 := by
      have := he.symm.trans Tryz.underlying26
      injection this with this; injection this
    subst hee
    have hWs : w.heap.size ≤ W.heap.size := hBW.size
    have hkl : (outs pre).length ≤ 10000 := Nat.le_trans (outs_len pre) hpl
    have hm1 : meet1 (p, q) = if (meetV p.id p.a p.b q.id q.a q.b).2.2 = 0 then some ⟨(meetV p.id p.a p.b q.id q.a q.b).1, (meetV p.id p.a p.b q.id q.a q.b).2.1, p.id, q.id⟩ else none := rfl
    have hkm := kMeet_in (n := n - 1 - 1 - 1) (lp := lp) p q W (gd_keep hBW.size (fun b hb => hBW.block b (Nat.lt_of_lt_of_le hb (gd_size hg0))) hg0) wp wq
    generalize meetV p.id p.a p.b q.id q.a q.b = mv at hm1 hkm
    obtain ⟨mn, md, me⟩ := mv
    simp only at hm1
    simp only [Pt.v] at hkm
    by_cases he0 : me = 0
    · rw [if_pos he0] at hm1
      subst he0
      have o4 : ∀ u ∈ ([.int .i64 mn, .int .i64 md, .int .i64 p.id, .int .i64 q.id] : List Value), u.oneCell' = true := by simp [Value.oneCell']
      have b1 : (outs pre).length + 1 ≤ maxLen := by unfold maxLen; omega
      have b2 : ((outs pre).length + 1) * ti.bytes ≤ 140737488355328 := by
        have : ((outs pre).length + 1) * ti.bytes ≤ 10001 * 65536 := Nat.mul_le_mul (by omega) hby
        omega
      have hes : outs (pre ++ [(p, q)]) = outs pre ++ [⟨mn, md, p.id, q.id⟩] := by rw [outs_snoc, hm1]; rfl
      gi_wp2_with (first
        | (gi_at_call 203; (with_reducible refine CallsIn.mono hkm ?_); rintro e W1 ⟨rfl, hB1⟩
           obtain ⟨hbx2, hrow2, c0, c1, c2, cM, b3, hXs⟩ := body_facts mn md hB1 hWs hbx hrow hp hq)
        | (gi_at_builtin; refine wpListIn_append_own _ rfl _ _ 26 rfl w.heap.size 31 ti z 4 ti.bytes Tryz.underlying26 hi0 hz0 hsz0 rfl hzs (by decide) _ _ _ rfl (hrow2.alloc _) ⟨W1.heap.size + 1, 0, none⟩ 1 1 [.int .i64 mn, .int .i64 md, .int .i64 p.id, .int .i64 q.id] rfl rfl cM o4 b1 b2 b3 ?_; intro v' w3 hown' hg3 hnil3
           have hg4 : World.grownBy (((W1.alloc (.cells #[.int .i64 mn, .int .i64 md] 25))).alloc (.cells #[.int .i64 mn, .int .i64 md, .int .i64 p.id, .int .i64 q.id] 31)) w3 v.ownBlock := hg3
           obtain ⟨g', cap', hv'⟩ := ownsRow_succ hown'
           subst hv'
           have hap := Boxed.appended hbx2 (by decide) hrow2 (by rw [hXs]; have := hB1.size; omega) (Nat.le_succ _) hown' hg3
           have c3 := hap.1.cell
           have c4 := hap.1.frozen)
        | (rw [Oper.semAt_eq _ _ _ (fun c h => by cases h)]; go_simp; try go_bits))
      obtain ⟨a1, a2, a3, a4, a5⟩ := hap
      have hB1n : Below w.heap.size W (W1.alloc (.cells #[.int .i64 mn, .int .i64 md] 25)) := (hB1.mono hWs).trans ((Below.refl _ W1).alloc (Nat.le_trans hWs hB1.size) _)
      refine ⟨((KeepsOthers.of_below hB1).trans (KeepsOthers.alloc _ _)).trans a4, ?_, ?_⟩
      · refine (((KeepT.of_below hB1 hWs).trans (KeepT.alloc _ _ (Nat.le_trans hWs hB1.size))).trans (KeepT.alloc _ _ (by rw [hXs]; have := hB1.size; omega))).trans ((KeepT.of_grownBy hg4 ?_ b3).trans (KeepT.of_grownBy (grownBy_setCell' w3 _ _) ?_ (Nat.le_trans b3 hg4.size)))
        · intro r hr
          rcases (hrow2.alloc (.cells #[.int .i64 mn, .int .i64 md, .int .i64 p.id, .int .i64 q.id] 31)).2 with ⟨rfl, _⟩ | ⟨g, cap, cur, rfl, hb, hgb, _⟩
          · simp [Value.ownBlock] at hr
          · obtain rfl : g = r := by simpa [Value.ownBlock] using hr
            exact ⟨hb, cur, _, _, hgb, by decide, by decide⟩
        · rintro r hr
          injection hr with hr
          subst hr
          exact ⟨Nat.le_succ _, _, _, _, a1, by decide, by decide⟩
      · unfold OutI
        rw [hes]
        exact ⟨⟨_, a2, by simpa [Mt.vals] using a3, trivial⟩, (hBW.trans hB1n).trans a5⟩
    · rw [if_neg he0] at hm1
      gi_wp2_with (first
        | (gi_at_call 203; (with_reducible refine CallsIn.mono hkm ?_); rintro e W1 ⟨rfl, hB1⟩)
        | (rw [Oper.semAt_eq _ _ _ (fun c h => by cases h)]; go_simp; try go_bits))
      have hg1 := grownBy_of_below (hB1.trans ((Below.refl _ W1).alloc hB1.size (.cells #[.int .i64 mn, .int .i64 md] 25)))
      refine ⟨(KeepsOthers.of_below hB1).trans (KeepsOthers.alloc _ _), (KeepT.of_below hB1 hWs).trans (KeepT.alloc _ _ (by have := hB1.size; omega)), ?_⟩
      have e : outs (pre ++ [(p, q)]) = outs pre := by rw [outs_snoc, hm1]; simp
      unfold OutI
      rw [e]
      exact outI_from w _ (Nat.le_refl _) pre W _ none hI hg1 (fun r e => by cases e)
  · rintro D W hD hI hK
    obtain ⟨⟨v, hbx, hrow, _⟩, hBW⟩ := hI
    obtain ⟨m, m1, m2, m3⟩ := row_of_owns hrow hok
    have hc0 := hbx.cell
    have hf3 : Fence.wide.fn 204 := trivial
    have hplen : (outs (pairsOf l)).length ≤ 1000000 := by
      have h := pairs_len l
      have : l.length * l.length ≤ 64 * 64 := Nat.mul_le_mul hl hl
      exact Nat.le_trans (outs_len _) (by omega)
    have hmu := sortMt_mu (l := outs (pairsOf l)) hok hplen
    have hMb : ∀ b, (0 < m.cap ∧ b = m.b) → b < W.heap.size := fun b h => by
      obtain ⟨_, cs, hcs⟩ := m3 h.1
      rw [h.2]; exact (Array.getElem?_eq_some_iff.1 hcs).1
    have hsort : CallsIn Fence.wide (n - 1) Tryz.prog 204 #[v, .func (.func 205) #[] #[]] W fun e w' => e = .returned (.tuple #[]) ∧ BelowC (fun b => 0 < m.cap ∧ b = m.b) W.heap.size W w' ∧ BlkR (fun _ => m) w' (fun b => 0 < m.cap ∧ b = m.b) m (.row 4 ((msrt (outs (pairsOf l))).map Mt.c) m.ver) := by
      refine callsIn_wide.2 ?_
      obtain ⟨g, hg, hc⟩ := hmu.2 W (fun b => 0 < m.cap ∧ b = m.b) v [.func (.func 205) #[] #[]] m ⟨hMb, gd_keep hBW.size (fun b hb => hBW.block b (Nat.lt_of_lt_of_le hb (gd_size hg0))) hg0, fun b h => by rw [h.2]; exact Nat.le_trans (gd_size hg0) (m3 h.1).1⟩ (fun h => ⟨h, rfl⟩) ⟨Rep.clo (caps := []) (fun _ => undef) (fun i hi => absurd hi (Nat.not_lt_zero _)), trivial⟩ m1 m2
      have hgg : g = 204 := by
        have := Tryz.call204 #[v, .func (.func 205) #[] #[]] W
        have hg' : (callFunc 204 #[v, .func (.func 205) #[] #[]]).run Tryz.prog W = .ok (.enter g #[v, .func (.func 205) #[] #[]]) W := hg
        rw [this] at hg'
        injection hg' with h1; injection h1 with h1; exact h1.symm
      subst hgg
      exact hc
    have hOne : ¬ (0 < m.cap ∧ w.heap.size + 1 = m.b) := fun h => by
      obtain ⟨_, cs, hcs⟩ := m3 h.1
      have hb : W.heap[w.heap.size + 1]? = some (.cells #[v] 26 (0, 0)) := hbx
      rw [h.2, hcs] at hb
      injection hb with hb
      injection hb with _ hb
      exact absurd hb (by decide)
    have hDne : ¬ (0 < m.cap ∧ D = m.b) := fun h => by
      obtain ⟨_, cs, hcs⟩ := m3 h.1
      rw [h.2, hcs] at hK
      injection hK with hK
      cases hK
    gi_wp2_with (gi_at_call 204; (with_reducible refine CallsIn.mono hsort ?_); rintro e w1 ⟨rfl, b1, r1⟩; have c1 : w1.cell? ⟨w.heap.size + 1, 0, none⟩ = some v := (World.cell?_of_block (b1.block _ (Array.getElem?_eq_some_iff.1 (show W.heap[w.heap.size + 1]? = _ from hbx)).1 hOne)).trans hc0)
    have hK1 : w1.heap[D]? = some (.deferred (some [])) := (b1.block D (Array.getElem?_eq_some_iff.1 hK).1 hDne).trans hK
    refine ⟨by simp, .inl ⟨_, _, rfl, run_takeDeferred hK1, ?_⟩⟩
    refine ⟨_, results_tmp rfl _ _ _, v, rfl, ?_, ?_⟩
    · have hg := grownBy_putObj' w1 D (.deferred none)
      have hh : Holds M w1 (w1.putObj D (.deferred none)) := ⟨by simp, fun b _ _ hc => World.putObj_heap_other fun e => by
        subst e
        obtain ⟨cs, T', f, hc⟩ := hc
        rw [hK1] at hc; injection hc with hc; cases hc⟩
      refine Rep.mono (row_data (blk_flat (M' := M) (flat_flatten hmu.1) r1) m2 (fun b hb h => h) (fun h hm => by have := hM _ hm; have := (m3 h).1; omega) (fun h => by
        obtain ⟨_, cs, hcs⟩ := m3 h
        exact Nat.lt_of_lt_of_le (Array.getElem?_eq_some_iff.1 hcs).1 b1.size)) hh (fun _ _ h => h)
    · refine ((hBW.trans ⟨b1.os, b1.tape, b1.output, b1.size, fun k hk => b1.block k (Nat.lt_of_lt_of_le hk hBW.size) fun h => by have := (m3 h.1).1; omega⟩)).grown (grownBy_putObj' w1 D _) (Nat.le_trans hBW.size b1.size) (fun k e => by cases e; omega)
end Go.Proofs.YtfkfficabeclcaaGreatDoor

namespace Go.Proofs.YtfkfficabeclcaaGreatDoor
open Go Go.RowKit Go.Sort Sx
abbrev allM (l:List Pt):List Mt:=msrt (outs (pairsOf l))
theorem pairs_lt:∀ {l:List Pt} {p q:Pt},incr l=true→(p,q)∈pairsOf l→p.id<q.id
 | [],p,q,_,h=>by simp [pairsOf] at h
 | x::l,p,q,hs,h=>by
  simp only [pairsOf,List.mem_append,List.mem_map,Prod.mk.injEq] at h
  rcases h with ⟨y,hy,rfl,rfl⟩|h
  ·obtain ⟨k,hk,rfl⟩:=List.getElem_of_mem hy
   have:=incr_lt hs (k+1) 0 (by simpa using hk) (by omega)
   simpa using this
  ·exact pairs_lt (incr_tail hs) h
theorem meet_cases {p q:Pt} (h1:p.chk=0) (h2:q.chk=0) (hne:p.id≠q.id):(p.b=q.b∧meet1 (p,q)=none) ∨
  (p.b≠q.b∧meet1 (p,q)=some ⟨(makeV (p.a-q.a) (q.b-p.b)).1,(makeV (p.a-q.a) (q.b-p.b)).2.1,p.id,q.id⟩∧chk (makeV (p.a-q.a) (q.b-p.b)).1 (makeV (p.a-q.a) (q.b-p.b)).2.1=0 ∧
   1≤(makeV (p.a-q.a) (q.b-p.b)).2.1∧(makeV (p.a-q.a) (q.b-p.b)).2.1≤2097152 ∧ -2097152≤(makeV (p.a-q.a) (q.b-p.b)).1∧(makeV (p.a-q.a) (q.b-p.b)).1≤2097152):=by
 have ht:two02 p.id p.a p.b q.id q.a q.b 0 1=0:=by
  unfold two02
  rw [if_pos ⟨h1,h2,by decide⟩,if_neg hne]
 have hm:meetV p.id p.a p.b q.id q.a q.b=if p.b=q.b then (0,0,6) else makeV (p.a-q.a) (q.b-p.b):=by unfold meetV;rw [if_pos ht]
 unfold meet1
 rw [hm]
 by_cases hb:p.b=q.b
 ·refine .inl ⟨hb,?_⟩
  simp [hb]
 ·obtain ⟨n,m,e,c1,c2,c3,c4,c5,_⟩:=meet_e h1 h2 hb
  refine .inr ⟨hb,?_,?_⟩
  ·simp [hb,e]
  ·rw [e];exact ⟨c1,c2,c3,c4,c5⟩
theorem outs_ok {l:List Pt} (h:fchk l=0):∀ m∈outs (pairsOf l),m.ok∧m.d≤2097152 ∧ -2097152≤m.n∧m.n≤2097152:=fun m hm=>by
 obtain ⟨_,k2,k3⟩:=fchk_ok h
 obtain ⟨⟨p,q⟩,h1,h2⟩:=List.mem_filterMap.1 hm
 obtain ⟨hp,hq⟩:=pairs_mem h1
 have hlt:=pairs_lt k3 h1
 have cp:=cpt_ok (k2 p hp)
 have cq:=cpt_ok (k2 q hq)
 rcases meet_cases (k2 p hp) (k2 q hq) (by omega) with ⟨_,e⟩|⟨_,e,c1,c2,c3,c4,c5⟩
 ·rw [e] at h2;cases h2
 ·rw [e] at h2
  injection h2 with h2
  subst h2
  exact ⟨⟨c1,by simp only;omega,by simp only;omega,by simp only;omega,by simp only;omega⟩,c3,c4,c5⟩
theorem outs_len2 {l:List Pt} (hl:l.length≤64):(outs (pairsOf l)).length≤4096:=by
 have h:=pairs_len l
 have:l.length*l.length≤64*64:=Nat.mul_le_mul hl hl
 exact Nat.le_trans (outs_len _) (by omega)
theorem mall_fn {l:List Pt} (h:fchk l=0):FnOK Tryz.prog 156 [fld l] (.c (.one (mts (allM l)))):=by
 refine fun w M vs hM hvs=>.inl ⟨156,Tryz.call156 _ _,?_⟩
 match vs,hvs with
 | [u],⟨⟨us,e,hus⟩,_⟩ =>
  subst e
  match us,hus with
  | [fv],⟨hfv,_⟩ =>
   exact (callsIn_wide.1 (mall_in 4 l fv w hM.gd M hM.lt hfv (fchk_ok h).1 (fun m hm=>(outs_ok h m hm).1) (by omega))).mono fun e w' ⟨v,h1,h2,h3⟩=>⟨v,h1,h2,h3⟩
theorem msrt_perm (l:List Mt):(msrt l).Perm l:=List.mergeSort_perm _ _
theorem msrt_mem {l:List Mt} {m:Mt}:m∈msrt l↔m∈l:=(msrt_perm l).mem_iff
theorem msrt_len (l:List Mt):(msrt l).length=l.length:=(msrt_perm l).length_eq
theorem mlt_asymm {a b:Mt} (h1:mlt a b) (h2:mlt b a):False:=mlt_irrefl a (mlt_trans h1 h2)
theorem mlt_neg {a b c:Mt} (h1:¬ mlt b a) (h2:¬ mlt c b):¬ mlt c a:=fun h=>by
 rcases mlt_tri a b with k|k|⟨e1,e2,e3⟩
 ·exact h2 (mlt_trans h k)
 ·exact h1 k
 ·apply h2
  unfold mlt at h ⊢
  rw [← e1,← e2,← e3];exact h
theorem msrt_sorted (l:List Mt):(msrt l).Pairwise fun a b=>¬ mlt b a:=by
 have:=List.pairwise_mergeSort (le:=fun x y:Mt => !decide (mlt y x)) (fun a b c h1 h2=>by
  simp only [Bool.not_eq_true',decide_eq_false_iff_not] at *
  exact mlt_neg h1 h2) (fun a b=>by
  simp only [Bool.or_eq_true,Bool.not_eq_true',decide_eq_false_iff_not]
  by_cases h:mlt b a
  ·exact .inr fun k=>mlt_asymm h k
  ·exact .inl h) l
 refine this.imp fun {a b} h => ?_
 simpa using h
theorem allM_asc {l:List Pt} (h:fchk l=0):Asc (allM l):=by
 refine ⟨fun i hi=>(outs_ok h _ (msrt_mem.1 (List.getElem_mem hi))).1.1,fun j i hj hij => ?_⟩
 have:=List.pairwise_iff_getElem.1 (msrt_sorted (outs (pairsOf l))) i j (Nat.lt_trans hij hj) hj hij
 unfold mlt at this
 exact Rat.not_lt.1 fun k=>this (.inl k)
theorem bcnt_le:∀ (l:List Mt) (n e:Int),bcnt l n e≤l.length
 | [],_,_=>Nat.le_refl _
 | m::l,n,e=>by
  have:=bcnt_le l n e
  unfold bcnt;split<;>simp<;>omega
theorem bcnt_lt:∀ {l:List Mt} {n e:Int} {k:Nat} (h:k<l.length),k<bcnt l n e→¬ n*l[k].d<l[k].n*e
 | m::l,n,e,k,h,hk=>by
  unfold bcnt at hk
  split at hk
  ·omega
  ·rename_i hc
   cases k with
   | zero=>exact hc
   | succ k=>simpa using bcnt_lt (l:=l) (by simpa using h) (by omega)
theorem bcnt_at:∀ {l:List Mt} {n e:Int} (h:bcnt l n e<l.length),n*l[bcnt l n e].d<l[bcnt l n e].n*e
 | m::l,n,e,h=>by
  by_cases hc:n*m.d<m.n*e
  ·have e0:bcnt (m::l) n e=0:=by unfold bcnt;rw [if_pos hc]
   simp only [e0];exact hc
  ·have e0:bcnt (m::l) n e=bcnt l n e+1:=by rw [bcnt,if_neg hc]
   simp only [e0,List.getElem_cons_succ]
   exact bcnt_at (by rw [e0] at h;simpa using h)
theorem bcnt_mono {l:List Mt} (hs:Asc l) {n e r t:Int} (h1:chk n e=0) (h2:chk r t=0) (h:¬ r*e<n*t):bcnt l n e≤bcnt l r t:=by
 rcases Nat.lt_or_ge (bcnt l r t) (bcnt l n e) with h3|h3
 ·exfalso
  have hlt:bcnt l r t<l.length:=Nat.lt_of_lt_of_le h3 (bcnt_le l n e)
  have q1:=(qv_ltM h2 (hs.ok _ hlt)).2 (bcnt_at hlt)
  have q2:¬ qv n e<qv l[bcnt l r t].n l[bcnt l r t].d:=fun k=>bcnt_lt hlt h3 ((qv_ltM h1 (hs.ok _ hlt)).1 k)
  have q3:¬ qv r t<qv n e:=fun k=>h ((qv_ltM h2 h1).1 k)
  exact q3 (Std.lt_of_lt_of_le q1 (Rat.not_lt.1 q2))
 ·exact h3
def btw (l:List Mt) (n e r t:Int):List Mt:=(l.take (bcnt l r t)).drop (bcnt l n e)
def mallV (l:List Pt) (n e r t:Int):List Mt × Int:=if mchk2 l n e r t=0 then (btw (allM l) n e r t,0) else ([],mchk2 l n e r t)
abbrev retMts (x:List Mt × Int):DV:=.tup [.one (mts x.1),.one (i64 x.2)]
theorem mchk2_ok {l:List Pt} {n e r t:Int} (h:mchk2 l n e r t=0):fchk l=0∧chk n e=0∧chk r t=0∧¬ r*e<n*t:=by
 unfold mchk2 at h
 split at h
 ·rename_i h1
  split at h
  ·rename_i h2
   split at h
   ·rename_i h3
    split at h
    ·omega
    ·exact ⟨h1,h2,h3,by assumption⟩
   ·omega
  ·omega
 ·omega
theorem mAll_fn (l:List Pt) (n e r t:Int):FnOK Tryz.prog 104 [fld l,rat n e,rat r t] (retMts (mallV l n e r t)):=by
 have H1:=mcheck_fn l n e r t
 unfold mallV
 by_cases h:mchk2 l n e r t=0
 ·rw [if_pos h]
  rw [h] at H1
  obtain ⟨h1,h2,h3,h4⟩:=mchk2_ok h
  have H2:=mall_fn h1
  have hasc:=allM_asc h1
  have hlen:(allM l).length≤4096:=by rw [msrt_len];exact outs_len2 (fchk_ok h1).1
  have H3:=mbehind_fn (allM l) n e hasc h2 (by omega)
  have H4:=mbehind_fn (allM l) r t hasc h3 (by omega)
  have hm:=bcnt_mono hasc h2 h3 h4
  have hb:=bcnt_le (allM l) r t
  unfold btw
  generalize allM l=L at *
  generalize bcnt L n e=a at *
  generalize bcnt L r t=b at *
  have hll:(L.map Mt.c).length=L.length:=List.length_map ..
  have hfin:((L.map Mt.c).take ((b:Nat):Int).toNat).drop ((a:Nat):Int).toNat=((L.take b).drop a).map Mt.c:=by simp [List.map_take,List.map_drop]
  refine fn_ok (by kernel_rfl) ty_ok Tryz.func104 rfl (fun _ _=>Tryz.call104 _ _) rfl ?_
  intro hw
  clear hw
  repeat' ((conv=>whnf);first|(with_reducible first|refine br_t ?_|refine br_f ?_|refine za ?_|refine zg ?_)|rw [List.length_map]|refine zp ?_|refine zq ?_|(with_reducible first|refine bc (fun h => ?_) (fun h => ?_)|refine zt ?_|refine zf ?_|refine br_i (fun h => ?_) (fun h => ?_))|refine zg ?_|refine zi ?_|refine zb ?_)
  all_goals conv=>whnf
  all_goals exact congrArg (fun x=>DV.tup [.one (.list 4 x),.one (i64 0)]) hfin
 ·rw [if_neg h]
  generalize mchk2 l n e r t=z at *
  refine fn_ok (by kernel_rfl) ty_ok Tryz.func104 rfl (fun _ _=>Tryz.call104 _ _) rfl ?_
  intro hw
  clear hw
  exact zw
end Go.Proofs.YtfkfficabeclcaaGreatDoor

namespace Go.Proofs.YtfkfficabeclcaaGreatDoor
open Go Go.RowKit Go.Sort Sx
set_option maxRecDepth 2000
structure Rp where
 e:Int
 i:Int
 j:Int
 n:Int
 d:Int
 ms:List Mt
 deriving DecidableEq,Inhabited
def Rp.c (r:Rp):List D:=[i64 r.e,i64 r.i,i64 r.j,i64 r.n,i64 r.d,mts r.ms]
abbrev Rp.dc (r:Rp):DC:=.agg [i64 r.e,i64 r.i,i64 r.j,i64 r.n,i64 r.d,mts r.ms]
def rp0:Rp:=⟨0,0,0,0,0,[]⟩
def rpE (e:Int):Rp:=⟨e,0,0,0,0,[]⟩
theorem oformed_fn (a:Ak):FnOK Tryz.prog 99 [a.dc] (.c (.one (bol (formV a)))):=by
 unfold formV
 refine fn_ok (by kernel_rfl) ty_ok Tryz.func99 rfl (fun _ _=>Tryz.call99 _ _) rfl ?_
 intro hw
 clear hw
 repeat' ((conv=>whnf);first|(with_reducible first|refine br_t ?_|refine br_f ?_|refine za ?_|refine zg ?_)|refine zp ?_|refine zq ?_|(with_reducible first|refine bc (fun h => ?_) (fun h => ?_)|refine zt ?_|refine zf ?_|refine br_i (fun h => ?_) (fun h => ?_)|refine xi (pv_bool fun _=>eqv54 _ _ _ _ _ _ _ _ _ _ _ _ _ _ _ _ _) ?_)|refine zg ?_|refine zi ?_|refine zb ?_)
 all_goals conv=>whnf
 all_goals
  refine r_bool ?_
  rw [Bool.eq_iff_iff]
  simp only [Bool.and_eq_true,beq_iff_eq,decide_eq_true_eq,Bool.false_eq_true,true_and,and_true,false_iff]
  omega
theorem oask1_mem (f:List Pt) (e:Int) (r:Rp) (n d:Int) (l:List Pt):FnMem Tryz.prog 98 [fld f,.one (i64 e)] [r.c,[i64 n,i64 d,pts l]] (.tup []) [[i64 e,i64 r.i,i64 r.j,i64 r.n,i64 r.d,mts r.ms],[i64 n,i64 d,pts (if e=0 then f else l)]]:=by
 by_cases h:e=0
 ·rw [if_pos h]
  refine fn_mem (by kernel_rfl) ty_ok Tryz.func98 rfl (fun _ _=>Tryz.call98 _ _) rfl rfl ?_
  intro hw
  clear hw
  exact zw
 ·rw [if_neg h]
  refine fn_mem (by kernel_rfl) ty_ok Tryz.func98 rfl (fun _ _=>Tryz.call98 _ _) rfl rfl ?_
  intro hw
  clear hw
  exact zw
end Go.Proofs.YtfkfficabeclcaaGreatDoor

namespace Go.Proofs.YtfkfficabeclcaaGreatDoor
open Go.RowKit Go.Sort Sx
end Go.Proofs.YtfkfficabeclcaaGreatDoor

namespace Go.Proofs.YtfkfficabeclcaaGreatDoor
open Go.RowKit Go.Sort Sx
def plcs (l:List Pt) (n m:Int) (i:Nat):List (List D):=(l.take i).map (fun p=>[i64 (plc p n m).1,i64 (plc p n m).2])++List.replicate (l.length-i) [i64 0,i64 0]
theorem plcs_len {l:List Pt} {n m:Int} {i:Nat}:i≤l.length→(plcs l n m i).length=l.length:=by
 intro h
 simp [plcs];omega
theorem plcs_get0 {l:List Pt} {n m:Int} {i:Nat} (h:i<l.length):(plcs l n m i)[((i:Nat):Int).toNat]? = some [i64 0,i64 0]:=by
 rw [Int.toNat_natCast,plcs,List.getElem?_append_right (by simp;omega)]
 rw [List.getElem?_replicate,if_pos (by simp;omega)]
theorem plcs_set {l:List Pt} {n m:Int} {i:Nat} (h:i<l.length):(plcs l n m i).set ((i:Nat):Int).toNat [i64 (plc l[i] n m).1,i64 (plc l[i] n m).2]=plcs l n m (i+1):=by
 rw [Int.toNat_natCast]
 unfold plcs
 have hk:l.length-i=(l.length-(i+1))+1:=by omega
 rw [List.take_succ_eq_append_getElem h,hk,List.replicate_succ,List.set_append_right _ _ (by simp;omega)]
 have h0:i-((l.take i).map fun p:Pt=>[i64 (plc p n m).1,i64 (plc p n m).2]).length=0:=by simp;omega
 rw [h0,List.map_append,List.append_assoc]
 rfl
theorem plcs_all (l:List Pt) (n m:Int):plcs l n m l.length=l.map fun p=>[i64 (plc p n m).1,i64 (plc p n m).2]:=by
 simp [plcs]
theorem plcs_get {l:List Pt} {n m:Int} {i:Nat} (h:i<l.length):(plcs l n m l.length)[((i:Nat):Int).toNat]? = some [i64 (plc l[i] n m).1,i64 (plc l[i] n m).2]:=by
 rw [plcs_all,Int.toNat_natCast,List.getElem?_map,List.getElem?_eq_getElem h];rfl
def cst (l:List Pt) (s:CSt) (x y:Int):Prop:=(s.2.2.2=0∧s.2.2.1=0∧x=0∧y=0)∨cgood l s∧∃ (h1:s.1<l.length) (h2:s.2.1<l.length),x=l[s.1].id∧y=l[s.2.1].id
set_option maxHeartbeats 4000000 in
set_option maxRecDepth 100000 in
theorem oClosest_fn (l:List Pt) (n m:Int):FnOK Tryz.prog 93 [fld l,rat n m] (retC (closV l n m)):=by
 refine fn_ok (by kernel_rfl) (ty_okK [40] [] [] []) Tryz.func93 rfl (fun _ _=>Tryz.call93 _ _) rfl ?_
 intro hw
 clear hw
 have H1:=fCheck_fn l
 have H2:=asked_fn n m
 have H3:=ofirst_fn (fchk l) (askd n m)
 unfold closV
 by_cases h0:fchk l=0
 ·obtain ⟨k1,k2,k3⟩:=fchk_ok h0
  rw [if_pos h0]
  by_cases h1:askd n m=0
  ·rw [if_pos h1]
   rw [h0,h1] at H3
   rw [h0] at H1
   rw [h1] at H2
   change FnOK _ _ _ (ret1 0) at H3
   by_cases h2:l.length<2
   ·rw [if_pos h2]
    repeat' ((conv=>whnf);first|(with_reducible first|refine br_t ?_|refine br_f ?_|refine za ?_|refine zg ?_|refine zo ?_)|rw [List.length_map]|refine zp ?_|refine zq ?_|(with_reducible first|refine bc (fun h => ?_) (fun h => ?_)|refine zt ?_|refine zf ?_|refine br_i (fun h => ?_) (fun h => ?_)|refine xi (pv_bool fun _=>nev25 _ _ _ _ _ _ _) ?_)|refine zg ?_|refine zi ?_|refine zb ?_|refine zl ?_)
    all_goals conv=>whnf
    all_goals rfl
   ·rw [if_neg h2]
    repeat' ((conv=>whnf);first|(with_reducible first|refine br_t ?_|refine br_f ?_|refine za ?_|refine zg ?_|refine zo ?_)|rw [List.length_map]|refine zp ?_|refine zq ?_|(with_reducible first|refine bc (fun h => ?_) (fun h => ?_)|refine zt ?_|refine zf ?_|refine br_i (fun h => ?_) (fun h => ?_)|refine xi (pv_bool fun _=>nev25 _ _ _ _ _ _ _) ?_)|refine zg ?_|refine zi ?_|refine zb ?_|refine zl ?_)
    all_goals conv=>whnf
    refine loop_frz [40] ?_
    refine loop_J (by kernel_rfl) (ty_okK [40] [] [] []) (σ:=Nat) (fun i=>[(44,sV (.int .i64 i))]) (fun i=>[(40,.row 2 (plcs l n m i) 0)]) (fun i=>i≤l.length) (fun i=>l.length-i) 0 (Nat.zero_le _) ?_ ?_
    ·(conv=>whnf);exact zent
    intro i hi
    have hln:=plcs_len (n:=n) (m:=m) hi
    rcases Nat.lt_or_ge i l.length with hlt|hge
    ·have hel:=pts_get hlt
     have hel2:=plcs_get0 (n:=n) (m:=m) hlt
     have H4:=kAt_fn l[i].id l[i].a l[i].b n m
     rw [(plc_ok (k2 _ (List.getElem_mem hlt)) h1).1] at H4
     simp only [ret3] at H4
     repeat' ((conv=>whnf);first|(with_reducible first|refine br_t ?_|refine br_f ?_|refine za ?_|refine zg ?_|refine zo ?_)|rw [List.length_map]|refine zp ?_|refine zq ?_|(with_reducible first|refine bc (fun h => ?_) (fun h => ?_)|refine zt ?_|refine zf ?_|refine br_i (fun h => ?_) (fun h => ?_)|refine xi (pv_bool fun _=>nev25 _ _ _ _ _ _ _) ?_)|refine zg ?_|refine zi ?_|refine zb ?_|refine zl ?_)
     all_goals conv=>whnf
     refine ⟨i+1,by omega,?_,by omega⟩
     (conv=>whnf);refine ⟨by repeat' (first|with_reducible exact zE0|with_reducible refine zE1 ?_ ?_|rfl|assumption|(exact congrArg (fun x=>some (Blk.row 2 x 0)) (plcs_set hlt))|exact zi1|exact zb1),by repeat' (first|with_reducible exact zH0|with_reducible refine zH1 ?_ ?_|rfl|assumption|(exact congrArg (fun x=>some (Blk.row 2 x 0)) (plcs_set hlt))),rfl⟩
    obtain rfl:i=l.length:=by omega
    repeat' ((conv=>whnf);first|(with_reducible first|refine br_t ?_|refine br_f ?_|refine za ?_|refine zg ?_|refine zo ?_)|rw [List.length_map]|refine zp ?_|refine zq ?_|(with_reducible first|refine bc (fun h => ?_) (fun h => ?_)|refine zt ?_|refine zf ?_|refine br_i (fun h => ?_) (fun h => ?_)|refine xi (pv_bool fun _=>nev25 _ _ _ _ _ _ _) ?_)|refine zg ?_|refine zi ?_|refine zb ?_|refine zl ?_)
    conv=>whnf
    refine loop_J (by kernel_rfl) (ty_okK [40] [] [] []) (σ:=Nat × CSt × Int × Int) (fun z=>[(66,sV (.int .i64 z.1)),(14,sV (.int .i64 z.2.2.1)),(15,sV (.int .i64 z.2.2.2))]) (fun z=>[(16,.own [.d (i64 z.2.1.2.2.1),.d (i64 z.2.1.2.2.2)])])
     (fun z=>z.1≤l.length∧cst l z.2.1 z.2.2.1 z.2.2.2∧outerC n m (l.drop z.1) z.1 z.2.1=pairC l n m) (fun z=>l.length-z.1) (0,(0,0,0,0),0,0) ⟨by omega,.inl ⟨rfl,rfl,rfl,rfl⟩,rfl⟩ ?_ ?_
    ·(conv=>whnf);exact zent
    rintro ⟨a,s,x,y⟩ ⟨g1,g2,g3⟩
    simp only at g1 g2 g3
    rcases Nat.lt_or_ge a l.length with hlt|hge
    ·rw [outerC_lt hlt] at g3
     repeat' ((conv=>whnf);first|(with_reducible first|refine br_t ?_|refine br_f ?_|refine za ?_|refine zg ?_|refine zo ?_)|rw [List.length_map]|refine zp ?_|refine zq ?_|(with_reducible first|refine bc (fun h => ?_) (fun h => ?_)|refine zt ?_|refine zf ?_|refine br_i (fun h => ?_) (fun h => ?_)|refine xi (pv_bool fun _=>nev25 _ _ _ _ _ _ _) ?_)|refine zg ?_|refine zi ?_|refine zb ?_|refine zl ?_)
     conv=>whnf
     refine loop_J (by kernel_rfl) (ty_okK [40] [] [] []) (σ:=Nat × CSt × Int × Int) (fun z=>[(18,sV (.int .i64 z.1)),(14,sV (.int .i64 z.2.2.1)),(15,sV (.int .i64 z.2.2.2))]) (fun z=>[(16,.own [.d (i64 z.2.1.2.2.1),.d (i64 z.2.1.2.2.2)])])
      (fun z=>z.1≤l.length∧cst l z.2.1 z.2.2.1 z.2.2.2∧innerC n m l[a] a (l.drop z.1) z.1 z.2.1=innerC n m l[a] a (l.drop (a+1)) (a+1) s) (fun z=>l.length-z.1) (a+1,s,x,y) ⟨by show _≤_;omega,g2,rfl⟩ ?_ ?_
     ·(conv=>whnf);exact zent
     rintro ⟨b,t,u,v⟩ ⟨f1,f2,f3⟩
     simp only at f1 f2 f3
     rcases Nat.lt_or_ge b l.length with hblt|hbge
     ·have hela:=plcs_get (n:=n) (m:=m) hlt
      have helb:=plcs_get (n:=n) (m:=m) hblt
      have hida:=pts_get hlt
      have hidb:=pts_get hblt
      rw [innerC_lt hblt] at f3
      obtain ⟨c,e1,e2,d1,d2,d3,d4,d5⟩:=dst_ok (k2 _ (List.getElem_mem hlt)) (k2 _ (List.getElem_mem hblt)) h1
      have H4:=sub_fn (plc l[a] n m).1 (plc l[a] n m).2 (plc l[b] n m).1 (plc l[b] n m).2
      rw [e1] at H4
      simp only [ret3] at H4
      have hgd:=fun h=>cgood_upd (n:=n) (m:=m) (s:=t) (a:=a) (b:=b) h k2 h1 hlt hblt
      have key:∀ z w:Int,z=(dst l[a] l[b] n m).1→w=(dst l[a] l[b] n m).2→cgood l t→FnOK Tryz.prog 103 (rat2 z w t.2.2.1 t.2.2.2) (.tup [.one (i64 (cmpN ((dst l[a] l[b] n m).1*t.2.2.2) (t.2.2.1*(dst l[a] l[b] n m).2))),.one (i64 0)]):=by
       rintro z w rfl rfl ht
       have:=cmp_fn (dst l[a] l[b] n m).1 (dst l[a] l[b] n m).2 t.2.2.1 t.2.2.2
       unfold cmpV bth at this
       rw [if_pos (by rw [d1,ht.1];decide)] at this
       exact this
      generalize hx:(dst l[a] l[b] n m).1=X at *
      generalize hy:(dst l[a] l[b] n m).2=Y at *
      rcases e2 with ⟨e2,e3⟩|⟨e2,e3⟩
      ·have hwr:IntKind.i64.wrap (0-c)=X:=by rw [IntWalk.i64_in _ (by omega)];omega
       have key2:=key (IntKind.i64.wrap (0-c)) Y hwr rfl
       rcases f2 with ⟨m1,m2,rfl,rfl⟩|⟨m1,m3,m4,rfl,rfl⟩
       ·have ec:cupd t a b (dst l[a] l[b] n m)=(a,b,X,Y):=by unfold cupd;rw [if_pos (.inl m1),hx,hy]
        have hg:=hgd (.inl m1)
        rw [ec] at f3 hg
        simp only [m1,m2] at *
        repeat' ((conv=>whnf);first|(with_reducible first|refine br_t ?_|refine br_f ?_|refine za ?_|refine zg ?_|refine zo ?_)|rw [List.length_map]|refine zp ?_|refine zq ?_|(with_reducible first|refine bc (fun h => ?_) (fun h => ?_)|refine zt ?_|refine zf ?_|refine br_i (fun h => ?_) (fun h => ?_)|refine xi (pv_bool fun _=>nev25 _ _ _ _ _ _ _) ?_)|refine zg ?_|refine zi ?_|refine zb ?_|refine zl ?_)
        all_goals conv=>whnf
        refine ⟨(b+1,(a,b,X,Y),l[a].id,l[b].id),⟨by show _≤_;omega,.inr ⟨hg,hlt,hblt,rfl,rfl⟩,f3⟩,?_,by show _-_<_-_;omega⟩
        (conv=>whnf);refine ⟨by repeat' (first|with_reducible exact zE0|with_reducible refine zE1 ?_ ?_|rfl|assumption|(exact congrArg (fun z=>some (Blk.own [.d (i64 z),.d (i64 Y)])) hwr)|exact zi1|exact zb1),by repeat' (first|with_reducible exact zH0|with_reducible refine zH1 ?_ ?_|rfl|assumption|(exact congrArg (fun z=>some (Blk.own [.d (i64 z),.d (i64 Y)])) hwr)),rfl⟩
       ·replace key2:=key2 m1
        have hg:=hgd (.inr m1)
        have n1:=m1.2.1
        have n2:=m1.2.2.2.1
        clear key
        by_cases hc:X*t.2.2.2<t.2.2.1*Y
        ·have ec:cupd t a b (dst l[a] l[b] n m)=(a,b,X,Y):=by unfold cupd;rw [hx,hy,if_pos (.inr hc)]
         rw [ec] at f3 hg
         have e9:cmpN (X*t.2.2.2) (t.2.2.1*Y) = -1:=if_pos hc
         rw [e9] at key2
         clear hc e9
         repeat' ((conv=>whnf);first|(with_reducible first|refine br_t ?_|refine br_f ?_|refine za ?_|refine zg ?_|refine zo ?_)|rw [List.length_map]|refine zp ?_|refine zq ?_|(with_reducible first|refine bc (fun h => ?_) (fun h => ?_)|refine zt ?_|refine zf ?_|refine br_i (fun h => ?_) (fun h => ?_)|refine xi (pv_bool fun _=>nev25 _ _ _ _ _ _ _) ?_)|refine zg ?_|refine zi ?_|refine zb ?_|refine zl ?_)
         all_goals conv=>whnf
         refine ⟨(b+1,(a,b,X,Y),l[a].id,l[b].id),⟨by show _≤_;omega,.inr ⟨hg,hlt,hblt,rfl,rfl⟩,f3⟩,?_,by show _-_<_-_;omega⟩
         (conv=>whnf);refine ⟨by repeat' (first|with_reducible exact zE0|with_reducible refine zE1 ?_ ?_|rfl|assumption|(exact congrArg (fun z=>some (Blk.own [.d (i64 z),.d (i64 Y)])) hwr)|exact zi1|exact zb1),by repeat' (first|with_reducible exact zH0|with_reducible refine zH1 ?_ ?_|rfl|assumption|(exact congrArg (fun z=>some (Blk.own [.d (i64 z),.d (i64 Y)])) hwr)),rfl⟩
         ·exfalso;simp only at h;omega
        ·have ec:cupd t a b (dst l[a] l[b] n m)=t:=by unfold cupd;rw [hx,hy,if_neg (by omega)]
         rw [ec] at f3
         have e9:0≤cmpN (X*t.2.2.2) (t.2.2.1*Y):=by unfold cmpN;rw [if_neg hc];split<;>omega
         generalize cmpN (X*t.2.2.2) (t.2.2.1*Y)=cc at key2 e9
         clear hc
         repeat' ((conv=>whnf);first|(with_reducible first|refine br_t ?_|refine br_f ?_|refine za ?_|refine zg ?_|refine zo ?_)|rw [List.length_map]|refine zp ?_|refine zq ?_|(with_reducible first|refine bc (fun h => ?_) (fun h => ?_)|refine zt ?_|refine zf ?_|refine br_i (fun h => ?_) (fun h => ?_)|refine xi (pv_bool fun _=>nev25 _ _ _ _ _ _ _) ?_)|refine zg ?_|refine zi ?_|refine zb ?_|refine zl ?_)
         all_goals conv=>whnf
         refine ⟨(b+1,t,l[t.1].id,l[t.2.1].id),⟨by show _≤_;omega,.inr ⟨m1,m3,m4,rfl,rfl⟩,f3⟩,?_,by show _-_<_-_;omega⟩
         (conv=>whnf);exact zent
         ·exfalso;simp only at h;omega
      ·have hwr:c=X:=by omega
       have key2:=key c Y hwr rfl
       rcases f2 with ⟨m1,m2,rfl,rfl⟩|⟨m1,m3,m4,rfl,rfl⟩
       ·have ec:cupd t a b (dst l[a] l[b] n m)=(a,b,X,Y):=by unfold cupd;rw [if_pos (.inl m1),hx,hy]
        have hg:=hgd (.inl m1)
        rw [ec] at f3 hg
        simp only [m1,m2] at *
        repeat' ((conv=>whnf);first|(with_reducible first|refine br_t ?_|refine br_f ?_|refine za ?_|refine zg ?_|refine zo ?_)|rw [List.length_map]|refine zp ?_|refine zq ?_|(with_reducible first|refine bc (fun h => ?_) (fun h => ?_)|refine zt ?_|refine zf ?_|refine br_i (fun h => ?_) (fun h => ?_)|refine xi (pv_bool fun _=>nev25 _ _ _ _ _ _ _) ?_)|refine zg ?_|refine zi ?_|refine zb ?_|refine zl ?_)
        all_goals conv=>whnf
        refine ⟨(b+1,(a,b,X,Y),l[a].id,l[b].id),⟨by show _≤_;omega,.inr ⟨hg,hlt,hblt,rfl,rfl⟩,f3⟩,?_,by show _-_<_-_;omega⟩
        (conv=>whnf);refine ⟨by repeat' (first|with_reducible exact zE0|with_reducible refine zE1 ?_ ?_|rfl|assumption|(exact congrArg (fun z=>some (Blk.own [.d (i64 z),.d (i64 Y)])) hwr)|exact zi1|exact zb1),by repeat' (first|with_reducible exact zH0|with_reducible refine zH1 ?_ ?_|rfl|assumption|(exact congrArg (fun z=>some (Blk.own [.d (i64 z),.d (i64 Y)])) hwr)),rfl⟩
       ·replace key2:=key2 m1
        have hg:=hgd (.inr m1)
        have n1:=m1.2.1
        have n2:=m1.2.2.2.1
        clear key
        by_cases hc:X*t.2.2.2<t.2.2.1*Y
        ·have ec:cupd t a b (dst l[a] l[b] n m)=(a,b,X,Y):=by unfold cupd;rw [hx,hy,if_pos (.inr hc)]
         rw [ec] at f3 hg
         have e9:cmpN (X*t.2.2.2) (t.2.2.1*Y) = -1:=if_pos hc
         rw [e9] at key2
         clear hc e9
         repeat' ((conv=>whnf);first|(with_reducible first|refine br_t ?_|refine br_f ?_|refine za ?_|refine zg ?_|refine zo ?_)|rw [List.length_map]|refine zp ?_|refine zq ?_|(with_reducible first|refine bc (fun h => ?_) (fun h => ?_)|refine zt ?_|refine zf ?_|refine br_i (fun h => ?_) (fun h => ?_)|refine xi (pv_bool fun _=>nev25 _ _ _ _ _ _ _) ?_)|refine zg ?_|refine zi ?_|refine zb ?_|refine zl ?_)
         all_goals conv=>whnf
         refine ⟨(b+1,(a,b,X,Y),l[a].id,l[b].id),⟨by show _≤_;omega,.inr ⟨hg,hlt,hblt,rfl,rfl⟩,f3⟩,?_,by show _-_<_-_;omega⟩
         (conv=>whnf);refine ⟨by repeat' (first|with_reducible exact zE0|with_reducible refine zE1 ?_ ?_|rfl|assumption|(exact congrArg (fun z=>some (Blk.own [.d (i64 z),.d (i64 Y)])) hwr)|exact zi1|exact zb1),by repeat' (first|with_reducible exact zH0|with_reducible refine zH1 ?_ ?_|rfl|assumption|(exact congrArg (fun z=>some (Blk.own [.d (i64 z),.d (i64 Y)])) hwr)),rfl⟩
         ·exfalso;simp only at h;omega
        ·have ec:cupd t a b (dst l[a] l[b] n m)=t:=by unfold cupd;rw [hx,hy,if_neg (by omega)]
         rw [ec] at f3
         have e9:0≤cmpN (X*t.2.2.2) (t.2.2.1*Y):=by unfold cmpN;rw [if_neg hc];split<;>omega
         generalize cmpN (X*t.2.2.2) (t.2.2.1*Y)=cc at key2 e9
         clear hc
         repeat' ((conv=>whnf);first|(with_reducible first|refine br_t ?_|refine br_f ?_|refine za ?_|refine zg ?_|refine zo ?_)|rw [List.length_map]|refine zp ?_|refine zq ?_|(with_reducible first|refine bc (fun h => ?_) (fun h => ?_)|refine zt ?_|refine zf ?_|refine br_i (fun h => ?_) (fun h => ?_)|refine xi (pv_bool fun _=>nev25 _ _ _ _ _ _ _) ?_)|refine zg ?_|refine zi ?_|refine zb ?_|refine zl ?_)
         all_goals conv=>whnf
         refine ⟨(b+1,t,l[t.1].id,l[t.2.1].id),⟨by show _≤_;omega,.inr ⟨m1,m3,m4,rfl,rfl⟩,f3⟩,?_,by show _-_<_-_;omega⟩
         (conv=>whnf);exact zent
         ·exfalso;simp only at h;omega
     ·rw [innerC_ge hbge] at f3
      rw [← f3] at g3
      repeat' ((conv=>whnf);first|(with_reducible first|refine br_t ?_|refine br_f ?_|refine za ?_|refine zg ?_|refine zo ?_)|rw [List.length_map]|refine zp ?_|refine zq ?_|(with_reducible first|refine bc (fun h => ?_) (fun h => ?_)|refine zt ?_|refine zf ?_|refine br_i (fun h => ?_) (fun h => ?_)|refine xi (pv_bool fun _=>nev25 _ _ _ _ _ _ _) ?_)|refine zg ?_|refine zi ?_|refine zb ?_|refine zl ?_)
      all_goals conv=>whnf
      refine ⟨(a+1,t,u,v),⟨by show _≤_;omega,f2,g3⟩,?_,by show _-_<_-_;omega⟩
      (conv=>whnf);exact zent
    ·rw [outerC_ge hge] at g3
     rw [← g3]
     rcases g2 with g2|⟨g2,g4,g5,rfl,rfl⟩
     ·exfalso
      have:=pairC_ok k2 h1 (by omega)
      rw [← g3] at this
      obtain ⟨_,_,_⟩:=this
      omega
     rw [List.getElem?_eq_getElem g4,List.getElem?_eq_getElem g5]
     repeat' ((conv=>whnf);first|(with_reducible first|refine br_t ?_|refine br_f ?_|refine za ?_|refine zg ?_|refine zo ?_)|rw [List.length_map]|refine zp ?_|refine zq ?_|(with_reducible first|refine bc (fun h => ?_) (fun h => ?_)|refine zt ?_|refine zf ?_|refine br_i (fun h => ?_) (fun h => ?_)|refine xi (pv_bool fun _=>nev25 _ _ _ _ _ _ _) ?_)|refine zg ?_|refine zi ?_|refine zb ?_|refine zl ?_)
     all_goals conv=>whnf
     all_goals rfl
  ·rw [if_neg h1]
   rw [h0] at H3 H1
   change FnOK _ _ _ (ret1 (askd n m)) at H3
   generalize askd n m=z at *
   repeat' ((conv=>whnf);first|(with_reducible first|refine br_t ?_|refine br_f ?_|refine za ?_|refine zg ?_|refine zo ?_)|rw [List.length_map]|refine zp ?_|refine zq ?_|(with_reducible first|refine bc (fun h => ?_) (fun h => ?_)|refine zt ?_|refine zf ?_|refine br_i (fun h => ?_) (fun h => ?_)|refine xi (pv_bool fun _=>nev25 _ _ _ _ _ _ _) ?_)|refine zg ?_|refine zi ?_|refine zb ?_|refine zl ?_)
   all_goals conv=>whnf
   all_goals rfl
 ·rw [if_neg h0]
  have e:orN (fchk l) (askd n m)=fchk l:=if_neg h0
  rw [e] at H3
  repeat' ((conv=>whnf);first|(with_reducible first|refine br_t ?_|refine br_f ?_|refine za ?_|refine zg ?_|refine zo ?_)|rw [List.length_map]|refine zp ?_|refine zq ?_|(with_reducible first|refine bc (fun h => ?_) (fun h => ?_)|refine zt ?_|refine zf ?_|refine br_i (fun h => ?_) (fun h => ?_)|refine xi (pv_bool fun _=>nev25 _ _ _ _ _ _ _) ?_)|refine zg ?_|refine zi ?_|refine zb ?_|refine zl ?_)
  all_goals conv=>whnf
  all_goals rfl
end Go.Proofs.YtfkfficabeclcaaGreatDoor

namespace Go.Proofs.YtfkfficabeclcaaGreatDoor
open Go.RowKit Go.Sort Sx
end Go.Proofs.YtfkfficabeclcaaGreatDoor
