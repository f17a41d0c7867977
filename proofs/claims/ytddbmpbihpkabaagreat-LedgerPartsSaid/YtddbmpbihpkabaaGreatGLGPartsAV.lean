import Derived.Test.YtddbmpbihpkabaaGreatGLGPartsAU
import Derived.RangeFuncBox
import Derived.Test.YtddbmpbihpkabaaGreatGLGPartsAS
set_option linter.all false
namespace Go.Proofs.YtddbmpbihpkabaaGreat
open Go Go.RowKit Go.Sort Sx
def meet1 (pq:Pt × Pt):Option Mt :=
 let v:=meetV pq.1.id pq.1.a pq.1.b pq.2.id pq.2.a pq.2.b
 if v.2.2=0 then some ⟨v.1,v.2.1,pq.1.id,pq.2.id⟩ else none
def Mt.vals (m:Mt):List Value:=[.int .i64 m.n,.int .i64 m.d,.int .i64 m.i,.int .i64 m.j]
def outs (l:List (Pt × Pt)):List Mt:=l.filterMap meet1
theorem outs_snoc (l:List (Pt × Pt)) (x:Pt × Pt):outs (l++[x])=outs l++(meet1 x).toList:=by
 unfold outs;rw [List.filterMap_append];congr 1
abbrev OutI (w:World) (pre:List (Pt × Pt)) (W:World):Prop :=
 (∃ v,Boxed W (w.heap.size+1) 52 v∧W.ownsRow w.heap.size 56 4 v (outs pre).length ((outs pre).flatMap Mt.vals)∧True)∧Below w.heap.size w W
def OutA (w:World) (T:Array Value) (pre:List (Pt × Pt)) (x:Pt × Pt) (a:Act) (W:World):Prop :=
 (WDC x.1.dc∧WDC x.2.dc∧pre.length≤10000)∧OutI w pre W∧∃ bp bq,a={ tmps:=T.setIfInBounds 10 x.1.v |>.setIfInBounds 11 x.2.v |>.setIfInBounds 4 (.pointer (some ⟨bp,0,none⟩)) |>.setIfInBounds 5 (.pointer (some ⟨bq,0,none⟩)),defers:=[] } ∧
  W.heap[bp]? = some (.cells #[.int .i64 x.1.id,.int .i64 x.1.a,.int .i64 x.1.b] 49 (0,0))∧W.heap[bq]? = some (.cells #[.int .i64 x.2.id,.int .i64 x.2.a,.int .i64 x.2.b] 49 (0,0))∧w.heap.size≤bp∧w.heap.size≤bq
theorem outI_from (w:World) (B:Nat) (hB:w.heap.size≤B):OwnFrom B (OutI w) :=
 ((holdsRow_own w.heap.size (w.heap.size+1) 52 56 4 (fun pre=>(outs pre).length) (fun pre=>(outs pre).flatMap Mt.vals) (fun _ _=>True)).from B).and (ownFrom_below (Nat.le_refl _) hB)
theorem outA_from (w:World) (T:Array Value) (B:Nat) (hB:w.heap.size≤B) (x:Pt × Pt) (a:Act):OwnFrom B (fun pre W=>OutA w T pre x a W):=by
 rintro pre W W' row ⟨h0,h1,bp,bq,h2,h3,h4,h5,h6⟩ hg hr
 have keep:∀ {k:Nat} {cs:Array Value} {t:TypeId},W.heap[k]? = some (.cells cs t (0,0))→W'.heap[k]? = some (.cells cs t (0,0)):=fun {k cs t} h=>(hg.block k (Array.getElem?_eq_some_iff.1 h).1 fun e=>by
  obtain ⟨_,o,ho,hc⟩:=hr k e.symm
  rw [h] at ho;cases ho;cases hc).trans h
 exact ⟨h0,outI_from w B hB pre W W' row h1 hg hr,bp,bq,h2,keep h3,keep h4,h5,h6⟩
theorem kMeet_in {n lp:Nat} (p q:Pt) (w:World) (hg:Gd w) (hp:WDC p.dc) (hq:WDC q.dc):CallsIn (Fence.wide.inRound lp) n Tryz.prog 115 #[p.v,q.v] w fun e w'=>e=.returned (.tuple #[.agg #[.int .i64 (meetV p.id p.a p.b q.id q.a q.b).1,.int .i64 (meetV p.id p.a p.b q.id q.a q.b).2.1],.int .i64 (meetV p.id p.a p.b q.id q.a q.b).2.2])∧Below w.heap.size w w':=by
 refine CallsIn.inRound lp (callsIn_wide.2 ?_)
 exact calls_of_fn (P:=Tryz.prog) (fun _ _=>Tryz.call115 _ _) (args:=[p.dc,q.dc]) (vals:=[p.v,q.v]) rfl rfl ⟨hp,hq,trivial⟩ (kMeet_fn p.id p.a p.b q.id q.a q.b) w hg
theorem pairs_mem:∀ {l:List Pt} {p q:Pt},(p,q)∈pairsOf l→p∈l∧q∈l
 | [],p,q,h=>by simp [pairsOf] at h
 | x::l,p,q,h=>by
  simp only [pairsOf,List.mem_append,List.mem_map,Prod.mk.injEq] at h
  rcases h with ⟨y,hy,rfl,rfl⟩|h
  ·exact ⟨List.mem_cons_self ..,List.mem_cons_of_mem _ hy⟩
  ·obtain ⟨h1,h2⟩:=pairs_mem h
   exact ⟨List.mem_cons_of_mem _ h1,List.mem_cons_of_mem _ h2⟩
theorem pairs_len:∀ (l:List Pt),(pairsOf l).length≤l.length*l.length
 | []=>by simp [pairsOf]
 | x::l=>by
  have:=pairs_len l
  simp only [pairsOf,List.length_append,List.length_map,List.length_cons,Nat.add_mul,Nat.mul_add];omega
theorem outs_len (pre:List (Pt × Pt)):(outs pre).length≤pre.length:=List.length_filterMap_le ..
theorem KeepT.of_grownBy {n0:Nat} {W W':World} {row:Option Nat} (hg:W.grownBy W' row) (hr:∀ r,row=some r→n0≤r∧∃ cs T fr,W.heap[r]? = some (.cells cs T fr)∧T≠49∧T≠26) (hn:n0≤W.heap.size):KeepT n0 W W' :=
 ⟨hg.size,fun k hk=>hg.block k (by omega) fun e=>by have:=(hr k e.symm).1;omega,fun k cs T fr hk hT=>hg.block k (Array.getElem?_eq_some_iff.1 hk).1 fun e=>by
  obtain ⟨_,cs',T',fr',h1,h2,h3⟩:=hr k e.symm
  rw [hk] at h1;injection h1 with h1;injection h1 with _ h1 _
  subst h1
  rcases hT with h|h
  ·exact h2 h
  ·exact h3 h⟩
theorem grownBy_of_below {W W':World} (h:Below W.heap.size W W'):W.grownBy W' none:=⟨h.os,h.tape,h.output,h.size,fun k hk _=>h.block k hk⟩
theorem KeepT.of_below {n0:Nat} {W W':World} (h:Below W.heap.size W W') (hn:n0≤W.heap.size):KeepT n0 W W' :=
 ⟨h.size,fun k hk=>h.block k (by omega),fun k cs T fr hk _=>h.block k (Array.getElem?_eq_some_iff.1 hk).1⟩
theorem KeepsOthers.of_below {W W':World} (h:Below W.heap.size W W'):KeepsOthers W W' :=
 ⟨h.size,fun k o hk _=>(h.block k (Array.getElem?_eq_some_iff.1 hk).1).trans hk⟩
theorem box3 {W:World} {b:Nat} {x y z:Value} {t:TypeId} (h:W.heap[b]? = some (.cells #[x,y,z] t (0,0))):W.cell? ⟨b,0,none⟩=some x∧W.cell? ⟨b,1,none⟩=some y∧W.cell? ⟨b,2,none⟩=some z:=by
 refine ⟨?_,?_,?_⟩<;>simp [World.cell?,h]
theorem mt_ds {w:World} {M:Nat→Prop}:∀ {l:List Mt},(∀ m∈l,m.ok)→DsR w M (l.map Mt.c).flatten (l.flatMap Mt.vals)
 | [],_=>trivial
 | m::l,h=>by
  obtain ⟨h1,h2,h3,h4,h5⟩:=h m (List.mem_cons_self ..)
  have h6:=((chk_iff _ _).1 h1).1
  have ih:=mt_ds (w:=w) (M:=M) (l:=l) fun x hx=>h x (List.mem_cons_of_mem _ hx)
  rw [List.map_cons,List.flatten_cons,List.flatMap_cons]
  refine DsR.append ?_ ih
  have key:∀ x:Int,-9223372036854775808≤x∧x≤9223372036854775807→Rep w M (i64 x) (.int .i64 x):=fun x hx=>.v _ rfl hx
  exact ⟨key _ h2,key _ (by omega),key _ h4,key _ h5,trivial⟩
theorem row_of_owns {W:World} {n0:Nat} {v:Value} {l:List Mt} (h:W.ownsRow n0 56 4 v l.length (l.flatMap Mt.vals)) (hok:∀ m∈l,m.ok) :
  ∃ m:Nm,BlkR (fun _=>m) W (fun b=>0<m.cap∧b=m.b) m (.row 4 (l.map Mt.c) m.ver)∧(∃ x,v=.slice x m.len m.cap∧(0<m.cap→x=some ⟨m.b,0,none⟩))∧(0<m.cap→n0≤m.b∧∃ cs,W.heap[m.b]? = some (.cells cs 56 (0,0))):=by
 have hk:∀ x∈l.map Mt.c,x.length=4:=fun x hx=>by
  obtain ⟨m,_,rfl⟩:=List.mem_map.1 hx;rfl
 rcases h.2 with ⟨rfl,h0⟩|⟨g,cap,cur,rfl,hb,hgb,h1,h2,h3,h4⟩
 ·have hl0:l=[]:=List.eq_nil_of_length_eq_zero h0
  subst hl0
  exact ⟨⟨false,0,0,0,0⟩,⟨⟨by simp,rfl,fun _=>rfl,rfl,rfl⟩,fun h=>by simp [Blk.real] at h⟩,⟨none,rfl,fun h=>absurd h (Nat.lt_irrefl _)⟩,fun h=>absurd h (Nat.lt_irrefl _)⟩
 ·have hsz:cur.toList.length=cap*4:=by simpa using h3
  refine ⟨⟨false,g,cap,l.length,0⟩,⟨⟨hk,by simp,fun h => ?_,rfl,rfl⟩,fun _=>⟨cur.toList,⟨56,by simpa using hgb⟩,by simpa using h1,h2,hsz,l.flatMap Mt.vals,cur.toList.drop (l.length*4),?_,mt_ds hok⟩⟩,⟨_,rfl,fun _=>rfl⟩,fun _=>⟨hb,_,hgb⟩⟩
  ·have h:cap=0:=h
   have:l.length=0:=by omega
   rw [List.eq_nil_of_length_eq_zero this];rfl
  ·rw [← h4,List.take_append_drop]
theorem blk_flat {ρ:Nat→Nm} {w:World} {M M':Nat→Prop} {m:Nm} {k v:Nat} {l:List (List Sx.D)} (hf:flatL l.flatten=true) (h:BlkR ρ w M m (.row k l v)):BlkR ρ w M' m (.row k l v):=by
 refine ⟨h.1,fun hr => ?_⟩
 obtain ⟨cs,hc,c1,c2,c3,vs,rest,c4,c5⟩:=h.2 hr
 exact ⟨cs,hc,c1,c2,c3,vs,rest,c4,flatL_rel hf c5⟩
theorem zip2 (a b:Tmp) (x y:Value) (t:Array Value):((#[a,b]:Array Tmp).zip #[x,y]).foldl (fun t (p,v)=>t.setIfInBounds p v) t=(t.setIfInBounds a x).setIfInBounds b y:=by
 have e:(#[a,b]:Array Tmp).zip #[x,y]=#[(a,x),(b,y)]:=by apply Array.ext';simp
 rw [e];simp
theorem body_facts {n0 O bp bq k:Nat} {W W1:World} {p q:Pt} {v:Value} {xs:List Value} (mn md:Int) (hB1:Below W.heap.size W W1) (hWs:n0≤W.heap.size) (hbx:Boxed W O 52 v) (hrow:W.ownsRow n0 56 4 v k xs)
  (hp:W.heap[bp]? = some (.cells #[.int .i64 p.id,.int .i64 p.a,.int .i64 p.b] 49 (0,0))) (hq:W.heap[bq]? = some (.cells #[.int .i64 q.id,.int .i64 q.a,.int .i64 q.b] 49 (0,0))) :
  Boxed ((W1.alloc (.cells #[.int .i64 mn,.int .i64 md] 23))) O 52 v∧((W1.alloc (.cells #[.int .i64 mn,.int .i64 md] 23))).ownsRow n0 56 4 v k xs∧((W1.alloc (.cells #[.int .i64 mn,.int .i64 md] 23))).cell? ⟨O,0,none⟩=some v∧((W1.alloc (.cells #[.int .i64 mn,.int .i64 md] 23))).cell? ⟨bp,0,none⟩=some (.int .i64 p.id)∧((W1.alloc (.cells #[.int .i64 mn,.int .i64 md] 23))).cell? ⟨bq,0,none⟩=some (.int .i64 q.id) ∧
  (∀ (j:Nat) (u:Value),([.int .i64 mn,.int .i64 md,.int .i64 p.id,.int .i64 q.id]:List Value)[j]? = some u→(((W1.alloc (.cells #[.int .i64 mn,.int .i64 md] 23))).alloc (.cells #[.int .i64 mn,.int .i64 md,.int .i64 p.id,.int .i64 q.id] 56)).cell? ((⟨W1.heap.size+1,0,none⟩:Addr).add j)=some u) ∧
  n0≤(((W1.alloc (.cells #[.int .i64 mn,.int .i64 md] 23))).alloc (.cells #[.int .i64 mn,.int .i64 md,.int .i64 p.id,.int .i64 q.id] 56)).heap.size∧((W1.alloc (.cells #[.int .i64 mn,.int .i64 md] 23))).heap.size=W1.heap.size+1:=by
 have hg1:=grownBy_of_below (hB1.trans ((Below.refl _ W1).alloc hB1.size (.cells #[.int .i64 mn,.int .i64 md] 23)))
 have hbx2:Boxed ((W1.alloc (.cells #[.int .i64 mn,.int .i64 md] 23))) O 52 v:=hbx.kept hg1 (by simp)
 have hXs:((W1.alloc (.cells #[.int .i64 mn,.int .i64 md] 23))).heap.size=W1.heap.size+1:=by simp
 refine ⟨hbx2,hrow.kept hg1 (by cases hv:v.ownBlock<;>simp),hbx2.cell,(box3 ((hg1.block bp (Array.getElem?_eq_some_iff.1 hp).1 (by simp)).trans hp)).1,(box3 ((hg1.block bq (Array.getElem?_eq_some_iff.1 hq).1 (by simp)).trans hq)).1,fun j u hj => ?_,?_,hXs⟩
 ·have hn:=World.alloc_heap_new ((W1.alloc (.cells #[.int .i64 mn,.int .i64 md] 23))) (.cells #[.int .i64 mn,.int .i64 md,.int .i64 p.id,.int .i64 q.id] 56)
  rw [hXs] at hn
  rw [Sx.add_plain,Nat.zero_add]
  simp only [World.cell?,hn]
  simpa using hj
 ·have:=hB1.size
  rw [World.size_alloc,hXs];omega
set_option maxRecDepth 100000 in
set_option maxHeartbeats 4000000 in
theorem mall_in (n : Nat) (l : List Pt) (fv : Value) (w : World) (hg0 : Gd w) (M : Nat → Prop) (hM : ∀ b, M b → b < w.heap.size) (hrep : Rep w M (.list 3 (l.map Pt.c)) fv) (hl : l.length ≤ 64) (hok : ∀ m ∈ outs (pairsOf l), m.ok) (hn : 4 ≤ n) :
    CallsIn Fence.wide n Tryz.prog 84 #[.agg #[fv]] w fun e w' => ∃ v, e = .returned v ∧ Rep w' M (.list 4 ((msrt (outs (pairsOf l))).map Mt.c)) v ∧ Below w.heap.size w w' := by
  have hn1 : 1 ≤ n := by omega
  have hn2 : 1 ≤ n - 1 := by omega
  have hn3 : 1 ≤ n - 1 - 1 := by omega
  have hf1 : Fence.wide.fn 114 := trivial
  have h1 : fv.oneCell' = true := Rep.one hrep
  have hwd : ∀ p ∈ l, WDC p.dc := fun p hp => by
    have := WD_list.1 hrep.wd
    have h := this.2.2 p.c (List.mem_map_of_mem hp)
    exact ⟨h _ (by simp [Pt.c]), h _ (by simp [Pt.c]), h _ (by simp [Pt.c]), trivial⟩
  refine callsIn_of_wp_marks Tryz.func84 rfl trivial ?_ rfl
  simp only [Tryz.ntmps84, List.size_toArray, List.length_cons, List.length_nil, Nat.reduceAdd, Nat.reduceSub, Array.replicate_succ, Array.replicate_zero, List.push_toArray, List.append_toArray, List.nil_append, List.cons_append]
  gi_wp2_with (gi_at_call 114; (with_reducible refine CallsIn.mono (mpairs_in _ fv _ h1) ?_); rintro e w1 ⟨rfl, rfl⟩)
  obtain ⟨W0, hW0⟩ : ∃ W0, W0 = ((w.alloc (.cells #[fv] 26)).alloc (.cells #[.slice none 0 0] 52)).alloc (.cells #[fv] 26) := ⟨_, rfl⟩
  have hB0 : Below w.heap.size w W0 := by rw [hW0]; exact (((Below.refl _ w).alloc (Nat.le_refl _) _).alloc (by simp) _).alloc (by simp; omega) _
  have hs0 : W0.heap.size = w.heap.size + 3 := by rw [hW0]; simp
  have hb0 : Boxed W0 (w.heap.size + 1) 52 (.slice none 0 0) := by
    rw [hW0]
    have := Boxed.new (w.alloc (.cells #[fv] 26)) 52 (.slice none 0 0)
    rw [World.size_alloc] at this
    exact this.alloc _
  have hc0 : W0.heap[w.heap.size + 2]? = some (.cells #[fv] 26 (0, 0)) := by
    rw [hW0]
    have := World.alloc_heap_new ((w.alloc (.cells #[fv] 26)).alloc (.cells #[.slice none 0 0] 52)) (.cells #[fv] 26 (0, 0))
    simpa using this
  have hr0 : Rep W0 (fun b => w.heap.size ≤ b) (.list 3 (l.map Pt.c)) fv := hrep.mono (Holds.of_below hB0) (fun b hb hM => absurd hM (by omega))
  rw [← hW0]
  obtain ⟨T, hT⟩ : ∃ T : Array Value, T = #[.agg #[fv], .pointer (some ⟨w.heap.size, 0, none⟩), .slice none 0 0, .pointer (some ⟨w.heap.size + 1, 0, none⟩), undef, undef, undef, undef, .agg #[fv], .func (.func 142) #[] #[.pointer (some ⟨w.heap.size + 2, 0, none⟩)], undef, undef, undef, undef, undef, undef, undef, undef, undef, undef, undef, undef, undef, undef, undef, undef, undef, undef, undef, undef, undef, undef] := ⟨_, rfl⟩
  refine wpIn_rangeAll (n0 := w.heap.size) (w0 := W0) (xs := pairsOf l) (α := Pt × Pt) (encs := fun pq => #[pq.1.v, pq.2.v]) hn1 (gf := 142) (lb := #[.pointer (some ⟨w.heap.size + 2, 0, none⟩)]) rfl (fun _ _ => Tryz.call142 _ _)
    (pairs1_stops l w.heap.size (n - 1) (w.heap.size + 2) fv W0 (by omega) hc0 hr0 (by omega) hn2) (Below.refl _ _) (by omega) (fun _ => rfl) (OutI w) (outI_from w _ (by omega)) ⟨⟨_, hb0, ⟨rfl, .inl ⟨rfl, rfl⟩⟩, trivial⟩, hB0⟩
    (OutA w T) (fun x a => outA_from w T _ (by omega) x a) ?_ ?_ ?_
  · rintro lp pre ⟨p, q⟩ W hmem hpl hI
    have hBW := hI.2
    rw [zip2]
    show Code.wpIn _ _ _ _ _ { tmps := #[Value.agg #[fv], Value.pointer (some ⟨w.heap.size, 0, none⟩), Value.slice none 0 0, Value.pointer (some ⟨w.heap.size + 1, 0, none⟩), undef, undef, undef, undef, Value.agg #[fv], Value.func (.func 142) #[] #[.pointer (some ⟨w.heap.size + 2, 0, none⟩)], Value.agg #[.int .i64 p.id, .int .i64 p.a, .int .i64 p.b], Value.agg #[.int .i64 q.id, .int .i64 q.a, .int .i64 q.b], undef, undef, undef, undef, undef, undef, undef, undef, undef, undef, undef, undef, undef, undef, undef, undef, undef, undef, undef, undef], defers := [] } W
    gi_wp2_with (rw [Oper.semAt_eq _ _ _ (fun c h => by cases h)]; go_simp; try go_bits)
    have hWs : w.heap.size ≤ W.heap.size := hBW.size
    refine ⟨(KeepsOthers.alloc W _).trans (KeepsOthers.alloc _ _), (KeepT.alloc W _ hWs).trans (KeepT.alloc _ _ (by simp; omega)), ⟨hwd p (pairs_mem hmem).1, hwd q (pairs_mem hmem).2, by have h := pairs_len l; have : l.length * l.length ≤ 64 * 64 := Nat.mul_le_mul hl hl; omega⟩, (outI_from w _ (Nat.le_refl _)).alloc _ ((outI_from w _ (Nat.le_refl _)).alloc _ hI), W.heap.size, W.heap.size + 1, ?_, ?_, ?_, hWs, by omega⟩
    · rw [hT]; rfl
    · exact (Below.heap_alloc _ _ _ (by simp)).trans (World.alloc_heap_new W _)
    · have := World.alloc_heap_new (W.alloc (.cells #[.int .i64 p.id, .int .i64 p.a, .int .i64 p.b] 49)) (.cells #[.int .i64 q.id, .int .i64 q.a, .int .i64 q.b] 49 (0, 0))
      rwa [World.size_alloc] at this
  · rintro lp pre ⟨p, q⟩ a1 W ⟨⟨wp, wq, hpl⟩, hI, bp, bq, rfl, hp, hq, gp, gq⟩
    rw [hT]
    show Code.wpIn _ _ _ _ _ { tmps := #[Value.agg #[fv], Value.pointer (some ⟨w.heap.size, 0, none⟩), Value.slice none 0 0, Value.pointer (some ⟨w.heap.size + 1, 0, none⟩), Value.pointer (some ⟨bp, 0, none⟩), Value.pointer (some ⟨bq, 0, none⟩), undef, undef, Value.agg #[fv], Value.func (.func 142) #[] #[.pointer (some ⟨w.heap.size + 2, 0, none⟩)], Value.agg #[.int .i64 p.id, .int .i64 p.a, .int .i64 p.b], Value.agg #[.int .i64 q.id, .int .i64 q.a, .int .i64 q.b], undef, undef, undef, undef, undef, undef, undef, undef, undef, undef, undef, undef, undef, undef, undef, undef, undef, undef, undef, undef], defers := [] } W
    obtain ⟨⟨v, hbx, hrow, _⟩, hBW⟩ := id hI
    obtain ⟨p0, p1, p2⟩ := box3 hp
    obtain ⟨q0, q1, q2⟩ := box3 hq
    have hf2 : Fence.wide.fn 115 := trivial
    obtain ⟨e, he, hsz, _, _, ti, z, hi0, hsz0, hz0, hzs, _, hby⟩ := (ty_ok 52 (.sl 4 true [.v (.int .i64 0), .v (.int .i64 0), .v (.int .i64 0), .v (.int .i64 0)]) rfl).2.2.2
    have hee : e = 56 := by
      have := he.symm.trans Tryz.underlying52
      injection this with this; injection this
    subst hee
    have hWs : w.heap.size ≤ W.heap.size := hBW.size
    have hkl : (outs pre).length ≤ 10000 := Nat.le_trans (outs_len pre) hpl
    have hm1 : meet1 (p, q) = if (meetV p.id p.a p.b q.id q.a q.b).2.2 = 0 then some ⟨(meetV p.id p.a p.b q.id q.a q.b).1, (meetV p.id p.a p.b q.id q.a q.b).2.1, p.id, q.id⟩ else none := rfl
    have hkm := kMeet_in (n := n - 1 - 1 - 1) (lp := lp) p q W (gd_keep hBW.size (fun b hb => hBW.block b (Nat.lt_of_lt_of_le hb (gd_size hg0))) hg0) wp wq
    generalize meetV p.id p.a p.b q.id q.a q.b = mv at hm1 hkm
    obtain ⟨mn, md, me⟩ := mv
    simp only at hm1
    simp only [Pt.v] at hkm
    by_cases he0 : me = 0
    · rw [if_pos he0] at hm1
      subst he0
      have o4 : ∀ u ∈ ([.int .i64 mn, .int .i64 md, .int .i64 p.id, .int .i64 q.id] : List Value), u.oneCell' = true := by simp [Value.oneCell']
      have b1 : (outs pre).length + 1 ≤ maxLen := by unfold maxLen; omega
      have b2 : ((outs pre).length + 1) * ti.bytes ≤ 140737488355328 := by
        have : ((outs pre).length + 1) * ti.bytes ≤ 10001 * 65536 := Nat.mul_le_mul (by omega) hby
        omega
      have hes : outs (pre ++ [(p, q)]) = outs pre ++ [⟨mn, md, p.id, q.id⟩] := by rw [outs_snoc, hm1]; rfl
      gi_wp2_with (first
        | (gi_at_call 115; (with_reducible refine CallsIn.mono hkm ?_); rintro e W1 ⟨rfl, hB1⟩
           obtain ⟨hbx2, hrow2, c0, c1, c2, cM, b3, hXs⟩ := body_facts mn md hB1 hWs hbx hrow hp hq)
        | (gi_at_builtin; refine wpListIn_append_own _ rfl _ _ 52 rfl w.heap.size 56 ti z 4 ti.bytes Tryz.underlying52 hi0 hz0 hsz0 rfl hzs (by decide) _ _ _ rfl (hrow2.alloc _) ⟨W1.heap.size + 1, 0, none⟩ 1 1 [.int .i64 mn, .int .i64 md, .int .i64 p.id, .int .i64 q.id] rfl rfl cM o4 b1 b2 b3 ?_; intro v' w3 hown' hg3 hnil3
           have hg4 : World.grownBy (((W1.alloc (.cells #[.int .i64 mn, .int .i64 md] 23))).alloc (.cells #[.int .i64 mn, .int .i64 md, .int .i64 p.id, .int .i64 q.id] 56)) w3 v.ownBlock := hg3
           obtain ⟨g', cap', hv'⟩ := ownsRow_succ hown'
           subst hv'
           have hap := Boxed.appended hbx2 (by decide) hrow2 (by rw [hXs]; have := hB1.size; omega) (Nat.le_succ _) hown' hg3
           have c3 := hap.1.cell
           have c4 := hap.1.frozen)
        | (rw [Oper.semAt_eq _ _ _ (fun c h => by cases h)]; go_simp; try go_bits))
      obtain ⟨a1, a2, a3, a4, a5⟩ := hap
      have hB1n : Below w.heap.size W (W1.alloc (.cells #[.int .i64 mn, .int .i64 md] 23)) := (hB1.mono hWs).trans ((Below.refl _ W1).alloc (Nat.le_trans hWs hB1.size) _)
      refine ⟨((KeepsOthers.of_below hB1).trans (KeepsOthers.alloc _ _)).trans a4, ?_, ?_⟩
      · refine (((KeepT.of_below hB1 hWs).trans (KeepT.alloc _ _ (Nat.le_trans hWs hB1.size))).trans (KeepT.alloc _ _ (by rw [hXs]; have := hB1.size; omega))).trans ((KeepT.of_grownBy hg4 ?_ b3).trans (KeepT.of_grownBy (grownBy_setCell' w3 _ _) ?_ (Nat.le_trans b3 hg4.size)))
        · intro r hr
          rcases (hrow2.alloc (.cells #[.int .i64 mn, .int .i64 md, .int .i64 p.id, .int .i64 q.id] 56)).2 with ⟨rfl, _⟩ | ⟨g, cap, cur, rfl, hb, hgb, _⟩
          · simp [Value.ownBlock] at hr
          · obtain rfl : g = r := by simpa [Value.ownBlock] using hr
            exact ⟨hb, cur, _, _, hgb, by decide, by decide⟩
        · rintro r hr
          injection hr with hr
          subst hr
          exact ⟨Nat.le_succ _, _, _, _, a1, by decide, by decide⟩
      · unfold OutI
        rw [hes]
        exact ⟨⟨_, a2, by simpa [Mt.vals] using a3, trivial⟩, (hBW.trans hB1n).trans a5⟩
    · rw [if_neg he0] at hm1
      gi_wp2_with (first
        | (gi_at_call 115; (with_reducible refine CallsIn.mono hkm ?_); rintro e W1 ⟨rfl, hB1⟩)
        | (rw [Oper.semAt_eq _ _ _ (fun c h => by cases h)]; go_simp; try go_bits))
      have hg1 := grownBy_of_below (hB1.trans ((Below.refl _ W1).alloc hB1.size (.cells #[.int .i64 mn, .int .i64 md] 23)))
      refine ⟨(KeepsOthers.of_below hB1).trans (KeepsOthers.alloc _ _), (KeepT.of_below hB1 hWs).trans (KeepT.alloc _ _ (by have := hB1.size; omega)), ?_⟩
      have e : outs (pre ++ [(p, q)]) = outs pre := by rw [outs_snoc, hm1]; simp
      unfold OutI
      rw [e]
      exact outI_from w _ (Nat.le_refl _) pre W _ none hI hg1 (fun r e => by cases e)
  · rintro D W hD hI hK
    obtain ⟨⟨v, hbx, hrow, _⟩, hBW⟩ := hI
    obtain ⟨m, m1, m2, m3⟩ := row_of_owns hrow hok
    have hc0 := hbx.cell
    have hf3 : Fence.wide.fn 116 := trivial
    have hplen : (outs (pairsOf l)).length ≤ 1000000 := by
      have h := pairs_len l
      have : l.length * l.length ≤ 64 * 64 := Nat.mul_le_mul hl hl
      exact Nat.le_trans (outs_len _) (by omega)
    have hmu := sortMt_mu (l := outs (pairsOf l)) hok hplen
    have hMb : ∀ b, (0 < m.cap ∧ b = m.b) → b < W.heap.size := fun b h => by
      obtain ⟨_, cs, hcs⟩ := m3 h.1
      rw [h.2]; exact (Array.getElem?_eq_some_iff.1 hcs).1
    have hsort : CallsIn Fence.wide (n - 1) Tryz.prog 116 #[v, .func (.func 117) #[] #[]] W fun e w' => e = .returned (.tuple #[]) ∧ BelowC (fun b => 0 < m.cap ∧ b = m.b) W.heap.size W w' ∧ BlkR (fun _ => m) w' (fun b => 0 < m.cap ∧ b = m.b) m (.row 4 ((msrt (outs (pairsOf l))).map Mt.c) m.ver) := by
      refine callsIn_wide.2 ?_
      obtain ⟨g, hg, hc⟩ := hmu.2 W (fun b => 0 < m.cap ∧ b = m.b) v [.func (.func 117) #[] #[]] m ⟨hMb, gd_keep hBW.size (fun b hb => hBW.block b (Nat.lt_of_lt_of_le hb (gd_size hg0))) hg0, fun b h => by rw [h.2]; exact Nat.le_trans (gd_size hg0) (m3 h.1).1⟩ (fun h => ⟨h, rfl⟩) ⟨Rep.clo (caps := []) (fun _ => undef) (fun i hi => absurd hi (Nat.not_lt_zero _)), trivial⟩ m1 m2
      have hgg : g = 116 := by
        have := Tryz.call116 #[v, .func (.func 117) #[] #[]] W
        have hg' : (callFunc 116 #[v, .func (.func 117) #[] #[]]).run Tryz.prog W = .ok (.enter g #[v, .func (.func 117) #[] #[]]) W := hg
        rw [this] at hg'
        injection hg' with h1; injection h1 with h1; exact h1.symm
      subst hgg
      exact hc
    have hOne : ¬ (0 < m.cap ∧ w.heap.size + 1 = m.b) := fun h => by
      obtain ⟨_, cs, hcs⟩ := m3 h.1
      have hb : W.heap[w.heap.size + 1]? = some (.cells #[v] 52 (0, 0)) := hbx
      rw [h.2, hcs] at hb
      injection hb with hb
      injection hb with _ hb
      exact absurd hb (by decide)
    have hDne : ¬ (0 < m.cap ∧ D = m.b) := fun h => by
      obtain ⟨_, cs, hcs⟩ := m3 h.1
      rw [h.2, hcs] at hK
      injection hK with hK
      cases hK
    gi_wp2_with (gi_at_call 116; (with_reducible refine CallsIn.mono hsort ?_); rintro e w1 ⟨rfl, b1, r1⟩; have c1 : w1.cell? ⟨w.heap.size + 1, 0, none⟩ = some v := (World.cell?_of_block (b1.block _ (Array.getElem?_eq_some_iff.1 (show W.heap[w.heap.size + 1]? = _ from hbx)).1 hOne)).trans hc0)
    have hK1 : w1.heap[D]? = some (.deferred (some [])) := (b1.block D (Array.getElem?_eq_some_iff.1 hK).1 hDne).trans hK
    refine ⟨by simp, .inl ⟨_, _, rfl, run_takeDeferred hK1, ?_⟩⟩
    refine ⟨_, results_tmp rfl _ _ _, v, rfl, ?_, ?_⟩
    · have hg := grownBy_putObj' w1 D (.deferred none)
      have hh : Holds M w1 (w1.putObj D (.deferred none)) := ⟨by simp, fun b _ _ hc => World.putObj_heap_other fun e => by
        subst e
        obtain ⟨cs, T', f, hc⟩ := hc
        rw [hK1] at hc; injection hc with hc; cases hc⟩
      refine Rep.mono (row_data (blk_flat (M' := M) (flat_flatten hmu.1) r1) m2 (fun b hb h => h) (fun h hm => by have := hM _ hm; have := (m3 h).1; omega) (fun h => by
        obtain ⟨_, cs, hcs⟩ := m3 h
        exact Nat.lt_of_lt_of_le (Array.getElem?_eq_some_iff.1 hcs).1 b1.size)) hh (fun _ _ h => h)
    · refine ((hBW.trans ⟨b1.os, b1.tape, b1.output, b1.size, fun k hk => b1.block k (Nat.lt_of_lt_of_le hk hBW.size) fun h => by have := (m3 h.1).1; omega⟩)).grown (grownBy_putObj' w1 D _) (Nat.le_trans hBW.size b1.size) (fun k e => by cases e; omega)
end Go.Proofs.YtddbmpbihpkabaaGreat

namespace Go.Proofs.YtddbmpbihpkabaaGreat
open Go Go.RowKit Go.Sort Sx
set_option maxRecDepth 2000
abbrev allM (l:List Pt):List Mt:=msrt (outs (pairsOf l))
theorem pairs_lt:∀ {l:List Pt} {p q:Pt},incr l=true→(p,q)∈pairsOf l→p.id<q.id
 | [],p,q,_,h=>by simp [pairsOf] at h
 | x::l,p,q,hs,h=>by
  simp only [pairsOf,List.mem_append,List.mem_map,Prod.mk.injEq] at h
  rcases h with ⟨y,hy,rfl,rfl⟩|h
  ·obtain ⟨k,hk,rfl⟩:=List.getElem_of_mem hy
   have:=incr_lt hs (k+1) 0 (by simpa using hk) (by omega)
   simpa using this
  ·exact pairs_lt (incr_tail hs) h
theorem meet_cases {p q:Pt} (h1:p.chk=0) (h2:q.chk=0) (hne:p.id≠q.id):(p.b=q.b∧meet1 (p,q)=none) ∨
  (p.b≠q.b∧meet1 (p,q)=some ⟨(makeV (p.a-q.a) (q.b-p.b)).1,(makeV (p.a-q.a) (q.b-p.b)).2.1,p.id,q.id⟩∧chk (makeV (p.a-q.a) (q.b-p.b)).1 (makeV (p.a-q.a) (q.b-p.b)).2.1=0 ∧
   1≤(makeV (p.a-q.a) (q.b-p.b)).2.1∧(makeV (p.a-q.a) (q.b-p.b)).2.1≤2097152 ∧ -2097152≤(makeV (p.a-q.a) (q.b-p.b)).1∧(makeV (p.a-q.a) (q.b-p.b)).1≤2097152):=by
 have ht:two02 p.id p.a p.b q.id q.a q.b 0 1=0:=by
  unfold two02
  rw [if_pos ⟨h1,h2,by decide⟩,if_neg hne]
 have hm:meetV p.id p.a p.b q.id q.a q.b=if p.b=q.b then (0,0,6) else makeV (p.a-q.a) (q.b-p.b):=by unfold meetV;rw [if_pos ht]
 unfold meet1
 rw [hm]
 by_cases hb:p.b=q.b
 ·refine .inl ⟨hb,?_⟩
  simp [hb]
 ·obtain ⟨n,m,e,c1,c2,c3,c4,c5,_⟩:=meet_e h1 h2 hb
  refine .inr ⟨hb,?_,?_⟩
  ·simp [hb,e]
  ·rw [e];exact ⟨c1,c2,c3,c4,c5⟩
theorem outs_ok {l:List Pt} (h:fchk l=0):∀ m∈outs (pairsOf l),m.ok∧m.d≤2097152 ∧ -2097152≤m.n∧m.n≤2097152:=fun m hm=>by
 obtain ⟨_,k2,k3⟩:=fchk_ok h
 obtain ⟨⟨p,q⟩,h1,h2⟩:=List.mem_filterMap.1 hm
 obtain ⟨hp,hq⟩:=pairs_mem h1
 have hlt:=pairs_lt k3 h1
 have cp:=cpt_ok (k2 p hp)
 have cq:=cpt_ok (k2 q hq)
 rcases meet_cases (k2 p hp) (k2 q hq) (by omega) with ⟨_,e⟩|⟨_,e,c1,c2,c3,c4,c5⟩
 ·rw [e] at h2;cases h2
 ·rw [e] at h2
  injection h2 with h2
  subst h2
  exact ⟨⟨c1,by simp only;omega,by simp only;omega,by simp only;omega,by simp only;omega⟩,c3,c4,c5⟩
theorem outs_len2 {l:List Pt} (hl:l.length≤64):(outs (pairsOf l)).length≤4096:=by
 have h:=pairs_len l
 have:l.length*l.length≤64*64:=Nat.mul_le_mul hl hl
 exact Nat.le_trans (outs_len _) (by omega)
theorem mall_fn {l:List Pt} (h:fchk l=0):FnOK Tryz.prog 84 [fld l] (.c (.one (mts (allM l)))):=by
 refine fun w M vs hM hvs=>.inl ⟨84,Tryz.call84 _ _,?_⟩
 match vs,hvs with
 | [u],⟨⟨us,e,hus⟩,_⟩ =>
  subst e
  match us,hus with
  | [fv],⟨hfv,_⟩ =>
   exact (callsIn_wide.1 (mall_in 4 l fv w hM.gd M hM.lt hfv (fchk_ok h).1 (fun m hm=>(outs_ok h m hm).1) (by omega))).mono fun e w' ⟨v,h1,h2,h3⟩=>⟨v,h1,h2,h3⟩
theorem msrt_perm (l:List Mt):(msrt l).Perm l:=List.mergeSort_perm _ _
theorem msrt_mem {l:List Mt} {m:Mt}:m∈msrt l↔m∈l:=(msrt_perm l).mem_iff
theorem msrt_len (l:List Mt):(msrt l).length=l.length:=(msrt_perm l).length_eq
theorem mlt_asymm {a b:Mt} (h1:mlt a b) (h2:mlt b a):False:=mlt_irrefl a (mlt_trans h1 h2)
theorem mlt_neg {a b c:Mt} (h1:¬ mlt b a) (h2:¬ mlt c b):¬ mlt c a:=fun h=>by
 rcases mlt_tri a b with k|k|⟨e1,e2,e3⟩
 ·exact h2 (mlt_trans h k)
 ·exact h1 k
 ·apply h2
  unfold mlt at h ⊢
  rw [← e1,← e2,← e3];exact h
theorem msrt_sorted (l:List Mt):(msrt l).Pairwise fun a b=>¬ mlt b a:=by
 have:=List.pairwise_mergeSort (le:=fun x y:Mt => !decide (mlt y x)) (fun a b c h1 h2=>by
  simp only [Bool.not_eq_true',decide_eq_false_iff_not] at *
  exact mlt_neg h1 h2) (fun a b=>by
  simp only [Bool.or_eq_true,Bool.not_eq_true',decide_eq_false_iff_not]
  by_cases h:mlt b a
  ·exact .inr fun k=>mlt_asymm h k
  ·exact .inl h) l
 refine this.imp fun {a b} h => ?_
 simpa using h
theorem allM_asc {l:List Pt} (h:fchk l=0):Asc (allM l):=by
 refine ⟨fun i hi=>(outs_ok h _ (msrt_mem.1 (List.getElem_mem hi))).1.1,fun j i hj hij => ?_⟩
 have:=List.pairwise_iff_getElem.1 (msrt_sorted (outs (pairsOf l))) i j (Nat.lt_trans hij hj) hj hij
 unfold mlt at this
 exact Rat.not_lt.1 fun k=>this (.inl k)
theorem bcnt_le:∀ (l:List Mt) (n e:Int),bcnt l n e≤l.length
 | [],_,_=>Nat.le_refl _
 | m::l,n,e=>by
  have:=bcnt_le l n e
  unfold bcnt;split<;>simp<;>omega
theorem bcnt_lt:∀ {l:List Mt} {n e:Int} {k:Nat} (h:k<l.length),k<bcnt l n e→¬ n*l[k].d<l[k].n*e
 | m::l,n,e,k,h,hk=>by
  unfold bcnt at hk
  split at hk
  ·omega
  ·rename_i hc
   cases k with
   | zero=>exact hc
   | succ k=>simpa using bcnt_lt (l:=l) (by simpa using h) (by omega)
theorem bcnt_at:∀ {l:List Mt} {n e:Int} (h:bcnt l n e<l.length),n*l[bcnt l n e].d<l[bcnt l n e].n*e
 | m::l,n,e,h=>by
  by_cases hc:n*m.d<m.n*e
  ·have e0:bcnt (m::l) n e=0:=by unfold bcnt;rw [if_pos hc]
   simp only [e0];exact hc
  ·have e0:bcnt (m::l) n e=bcnt l n e+1:=by rw [bcnt,if_neg hc]
   simp only [e0,List.getElem_cons_succ]
   exact bcnt_at (by rw [e0] at h;simpa using h)
theorem bcnt_mono {l:List Mt} (hs:Asc l) {n e r t:Int} (h1:chk n e=0) (h2:chk r t=0) (h:¬ r*e<n*t):bcnt l n e≤bcnt l r t:=by
 rcases Nat.lt_or_ge (bcnt l r t) (bcnt l n e) with h3|h3
 ·exfalso
  have hlt:bcnt l r t<l.length:=Nat.lt_of_lt_of_le h3 (bcnt_le l n e)
  have q1:=(qv_ltM h2 (hs.ok _ hlt)).2 (bcnt_at hlt)
  have q2:¬ qv n e<qv l[bcnt l r t].n l[bcnt l r t].d:=fun k=>bcnt_lt hlt h3 ((qv_ltM h1 (hs.ok _ hlt)).1 k)
  have q3:¬ qv r t<qv n e:=fun k=>h ((qv_ltM h2 h1).1 k)
  exact q3 (Std.lt_of_lt_of_le q1 (Rat.not_lt.1 q2))
 ·exact h3
def btw (l:List Mt) (n e r t:Int):List Mt:=(l.take (bcnt l r t)).drop (bcnt l n e)
def mallV (l:List Pt) (n e r t:Int):List Mt × Int:=if mchk2 l n e r t=0 then (btw (allM l) n e r t,0) else ([],mchk2 l n e r t)
abbrev retMts (x:List Mt × Int):DV:=.tup [.one (mts x.1),.one (i64 x.2)]
theorem mchk2_ok {l:List Pt} {n e r t:Int} (h:mchk2 l n e r t=0):fchk l=0∧chk n e=0∧chk r t=0∧¬ r*e<n*t:=by
 unfold mchk2 at h
 split at h
 ·rename_i h1
  split at h
  ·rename_i h2
   split at h
   ·rename_i h3
    split at h
    ·omega
    ·exact ⟨h1,h2,h3,by assumption⟩
   ·omega
  ·omega
 ·omega
theorem mAll_fn (l:List Pt) (n e r t:Int):FnOK Tryz.prog 54 [fld l,rat n e,rat r t] (retMts (mallV l n e r t)):=by
 have H1:=mcheck_fn l n e r t
 unfold mallV
 by_cases h:mchk2 l n e r t=0
 ·rw [if_pos h]
  rw [h] at H1
  obtain ⟨h1,h2,h3,h4⟩:=mchk2_ok h
  have H2:=mall_fn h1
  have hasc:=allM_asc h1
  have hlen:(allM l).length≤4096:=by rw [msrt_len];exact outs_len2 (fchk_ok h1).1
  have H3:=mbehind_fn (allM l) n e hasc h2 (by omega)
  have H4:=mbehind_fn (allM l) r t hasc h3 (by omega)
  have hm:=bcnt_mono hasc h2 h3 h4
  have hb:=bcnt_le (allM l) r t
  unfold btw
  generalize allM l=L at *
  generalize bcnt L n e=a at *
  generalize bcnt L r t=b at *
  have hll:(L.map Mt.c).length=L.length:=List.length_map ..
  have hfin:((L.map Mt.c).take ((b:Nat):Int).toNat).drop ((a:Nat):Int).toNat=((L.take b).drop a).map Mt.c:=by simp [List.map_take,List.map_drop]
  refine fn_ok (by kernel_rfl) ty_ok Tryz.func54 rfl (fun _ _=>Tryz.call54 _ _) rfl ?_
  intro hw
  clear hw
  repeat' ((conv=>whnf);first|(with_reducible first|refine br_t ?_|refine br_f ?_|refine za ?_|refine zg ?_)|rw [List.length_map]|refine zp ?_|refine zq ?_|(with_reducible first|refine bc (fun h => ?_) (fun h => ?_)|refine zt ?_|refine zf ?_|refine br_i (fun h => ?_) (fun h => ?_))|refine zg ?_|refine zi ?_|refine zb ?_)
  all_goals conv=>whnf
  all_goals exact congrArg (fun x=>DV.tup [.one (.list 4 x),.one (i64 0)]) hfin
 ·rw [if_neg h]
  generalize mchk2 l n e r t=z at *
  refine fn_ok (by kernel_rfl) ty_ok Tryz.func54 rfl (fun _ _=>Tryz.call54 _ _) rfl ?_
  intro hw
  clear hw
  exact zw
end Go.Proofs.YtddbmpbihpkabaaGreat

namespace Go.Proofs.YtddbmpbihpkabaaGreat
open Go Go.RowKit Go.Sort Sx
abbrev u8 (n:Int):D:=.v (.int .u8 n)
structure Ak where
 k:Int
 p:Pt
 id:Int
 n:Int
 d:Int
 deriving DecidableEq,Inhabited
def Ak.c (a:Ak):List D:=[u8 a.k,i64 a.p.id,i64 a.p.a,i64 a.p.b,i64 a.id,i64 a.n,i64 a.d]
abbrev Ak.dc (a:Ak):DC:=.agg [u8 a.k,i64 a.p.id,i64 a.p.a,i64 a.p.b,i64 a.id,i64 a.n,i64 a.d]
def formV (a:Ak):Bool :=
 decide ((a.k=1∨a.k=3)∧a.id=0∧a.n=0∧a.d=0∨a.k=2∧a.p.id=0∧a.p.a=0∧a.p.b=0∧a.n=0∧a.d=0∨a.k=4∧a.p.id=0∧a.p.a=0∧a.p.b=0∧a.id=0 ∨
  (a.k=5∨a.k=6)∧a.p.id=0∧a.p.a=0∧a.p.b=0∧a.id=0∧a.n=0∧a.d=0)
end Go.Proofs.YtddbmpbihpkabaaGreat

namespace Go.Proofs.YtddbmpbihpkabaaGreat
open Go Go.RowKit Go.Sort Sx
set_option maxRecDepth 2000
structure Rp where
 e:Int
 i:Int
 j:Int
 n:Int
 d:Int
 ms:List Mt
 deriving DecidableEq,Inhabited
def Rp.c (r:Rp):List D:=[i64 r.e,i64 r.i,i64 r.j,i64 r.n,i64 r.d,mts r.ms]
abbrev Rp.dc (r:Rp):DC:=.agg [i64 r.e,i64 r.i,i64 r.j,i64 r.n,i64 r.d,mts r.ms]
def rp0:Rp:=⟨0,0,0,0,0,[]⟩
def rpE (e:Int):Rp:=⟨e,0,0,0,0,[]⟩
theorem oformed_fn (a:Ak):FnOK Tryz.prog 49 [a.dc] (.c (.one (bol (formV a)))):=by
 unfold formV
 refine fn_ok (by kernel_rfl) ty_ok Tryz.func49 rfl (fun _ _=>Tryz.call49 _ _) rfl ?_
 intro hw
 clear hw
 repeat' ((conv=>whnf);first|(with_reducible first|refine br_t ?_|refine br_f ?_|refine za ?_|refine zg ?_)|refine zp ?_|refine zq ?_|(with_reducible first|refine bc (fun h => ?_) (fun h => ?_)|refine zt ?_|refine zf ?_|refine br_i (fun h => ?_) (fun h => ?_)|refine xi (pv_bool fun _=>eqv51 _ _ _ _ _ _ _ _ _ _ _ _ _ _ _ _ _) ?_)|refine zg ?_|refine zi ?_|refine zb ?_)
 all_goals conv=>whnf
 all_goals
  refine r_bool ?_
  rw [Bool.eq_iff_iff]
  simp only [Bool.and_eq_true,beq_iff_eq,decide_eq_true_eq,Bool.false_eq_true,true_and,and_true,false_iff]
  omega
theorem roFormed_fn (a:Ak):FnOK Tryz.prog 59 [a.dc] (.c (.one (bol (formV a)))):=by
 unfold formV
 refine fn_ok (by kernel_rfl) ty_ok Tryz.func59 rfl (fun _ _=>Tryz.call59 _ _) rfl ?_
 intro hw
 clear hw
 repeat' ((conv=>whnf);first|(with_reducible first|refine br_t ?_|refine br_f ?_|refine za ?_|refine zg ?_)|refine zp ?_|refine zq ?_|(with_reducible first|refine bc (fun h => ?_) (fun h => ?_)|refine zt ?_|refine zf ?_|refine br_i (fun h => ?_) (fun h => ?_)|refine xi (pv_bool fun _=>eqv51 _ _ _ _ _ _ _ _ _ _ _ _ _ _ _ _ _) ?_)|refine zg ?_|refine zi ?_|refine zb ?_)
 all_goals conv=>whnf
 all_goals
  refine r_bool ?_
  rw [Bool.eq_iff_iff]
  simp only [Bool.and_eq_true,beq_iff_eq,decide_eq_true_eq,Bool.false_eq_true,true_and,and_true,false_iff]
  omega
theorem oask1_mem (f:List Pt) (e:Int) (r:Rp) (n d:Int) (l:List Pt):FnMem Tryz.prog 48 [fld f,.one (i64 e)] [r.c,[i64 n,i64 d,pts l]] (.tup []) [[i64 e,i64 r.i,i64 r.j,i64 r.n,i64 r.d,mts r.ms],[i64 n,i64 d,pts (if e=0 then f else l)]]:=by
 by_cases h:e=0
 ·rw [if_pos h]
  refine fn_mem (by kernel_rfl) ty_ok Tryz.func48 rfl (fun _ _=>Tryz.call48 _ _) rfl rfl ?_
  intro hw
  clear hw
  exact zw
 ·rw [if_neg h]
  refine fn_mem (by kernel_rfl) ty_ok Tryz.func48 rfl (fun _ _=>Tryz.call48 _ _) rfl rfl ?_
  intro hw
  clear hw
  exact zw
end Go.Proofs.YtddbmpbihpkabaaGreat

namespace Go.Proofs.YtddbmpbihpkabaaGreat
open Go.RowKit Go.Sort Sx
theorem askd_ok {n d:Int} (h:askd n d=0):chk n d=0 ∧ -1073741824≤n∧n≤1073741824∧1≤d∧d≤1024:=by
 unfold askd at h
 split at h
 ·rename_i h1;exact absurd h h1
 ·rename_i h1
  have h1:chk n d=0:=by omega
  have:=(chk_iff n d).1 h1
  split at h
  ·omega
  ·exact ⟨h1,by omega⟩
theorem Pt.chk_ok {p:Pt} (h:p.chk=0):0≤p.id∧p.id≤65535 ∧ -1048576≤p.a∧p.a≤1048576 ∧ -1048576≤p.b∧p.b≤1048576:=cpt_ok h
theorem lin_in {a b n m:Int} (ha : -2097152≤a) (ha':a≤2097152) (hb : -2097152≤b) (hb':b≤2097152) (hn : -1073741824≤n) (hn':n≤1073741824) (hm:1≤m) (hm':m≤1024) :
  -4503599627370496≤a*m+b*n∧a*m+b*n≤4503599627370496:=by
 have h1:=prod_in2 a m 2097152 1024 (by omega) (by omega) (by omega) (by omega)
 have h2:=prod_in2 b n 2097152 1073741824 (by omega) (by omega) (by omega) (by omega)
 omega
def plc (p:Pt) (n m:Int):Int × Int:=((outQ (qv (p.a*m+p.b*n) m)).1,(outQ (qv (p.a*m+p.b*n) m)).2.1)
theorem plc_ok {p:Pt} {n m:Int} (hp:p.chk=0) (ht:askd n m=0):atV p.id p.a p.b n m=((plc p n m).1,(plc p n m).2,0)∧chk (plc p n m).1 (plc p n m).2=0 ∧
  qv (plc p n m).1 (plc p n m).2=qv (p.a*m+p.b*n) m∧1≤(plc p n m).2∧(plc p n m).2≤1024 ∧ -4503599627370496≤(plc p n m).1∧(plc p n m).1≤4503599627370496:=by
 obtain ⟨h1,h2,h3,h4,h5⟩:=askd_ok ht
 have h6:=p.chk_ok hp
 have h7:=lin_in (a:=p.a) (b:=p.b) (n:=n) (m:=m) (by omega) (by omega) (by omega) (by omega) h2 h3 h4 h5
 obtain ⟨x,y,e1,e2,e3,e4,e5,e6⟩:=outQ_sm (n:=p.a*m+p.b*n) (d:=m) h4 (by omega) (by omega) (by omega)
 unfold plc atV
 rw [if_pos ⟨hp,h1⟩,e1]
 exact ⟨rfl,e2,e3,e4,by show y≤1024;omega,by show _≤x;omega,by show x≤_;omega⟩
def dst (p q:Pt) (n m:Int):Int × Int:=(((outQ (qv ((p.a-q.a)*m+(p.b-q.b)*n) m)).1.natAbs:Int),(outQ (qv ((p.a-q.a)*m+(p.b-q.b)*n) m)).2.1)
theorem dst_ok {p q:Pt} {n m:Int} (hp:p.chk=0) (hq:q.chk=0) (ht:askd n m=0):∃ s,subV (plc p n m).1 (plc p n m).2 (plc q n m).1 (plc q n m).2=(s,(dst p q n m).2,0) ∧
  (s<0∧(dst p q n m).1 = -s∨0≤s∧(dst p q n m).1=s)∧chk (dst p q n m).1 (dst p q n m).2=0∧1≤(dst p q n m).2∧(dst p q n m).2≤1024∧0≤(dst p q n m).1∧(dst p q n m).1≤4503599627370496:=by
 obtain ⟨h1,h2,h3,h4,h5⟩:=askd_ok ht
 have h6:=p.chk_ok hp
 have h6':=q.chk_ok hq
 have h7:=lin_in (a:=p.a-q.a) (b:=p.b-q.b) (n:=n) (m:=m) (by omega) (by omega) (by omega) (by omega) h2 h3 h4 h5
 obtain ⟨_,p2,p3,p4,p5,p6,p7⟩:=plc_ok hp ht
 obtain ⟨_,q2,q3,q4,q5,q6,q7⟩:=plc_ok hq ht
 obtain ⟨x,y,e1,e2,e3,e4,e5,e6⟩:=outQ_sm (n:=(p.a-q.a)*m+(p.b-q.b)*n) (d:=m) h4 (by omega) (by omega) (by omega)
 have hs:qv (p.a*m+p.b*n) m-qv (q.a*m+q.b*n) m=qv ((p.a-q.a)*m+(p.b-q.b)*n) m:=by
  rw [qv_sub h4 h4,qv_eq (by have:=Int.mul_le_mul h4 h4 (by omega) (by omega);simpa using this) h4]
  simp only [Int.sub_mul,Int.add_mul,Int.mul_assoc]
  rw [Int.mul_comm m m]
  omega
 refine ⟨x,?_⟩
 rw [subV_q p2 q2 (by omega),p3,q3,hs]
 unfold dst
 rw [e1]
 have hc:chk (x.natAbs:Int) y=0:=by
  obtain ⟨c1,c2,c3⟩:=(chk_iff x y).1 e2
  exact (chk_iff _ _).2 ⟨c1,by omega,by rw [Int.natAbs_natCast];exact c3⟩
 exact ⟨rfl,by show x<0∧((x.natAbs:Nat):Int)=_∨_∧((x.natAbs:Nat):Int)=_;omega,hc,e4,by show y≤_;omega,by show 0≤((x.natAbs:Nat):Int);omega,by show ((x.natAbs:Nat):Int)≤_;omega⟩
abbrev CSt:=Nat × Nat × Int × Int
def cupd (s:CSt) (a b:Nat) (d:Int × Int):CSt:=if s.2.2.2=0∨d.1*s.2.2.2<s.2.2.1*d.2 then (a,b,d.1,d.2) else s
def innerC (n m:Int) (p:Pt) (a:Nat):List Pt→Nat→CSt→CSt
 | [],_,s=>s
 | q::r,b,s=>innerC n m p a r (b+1) (cupd s a b (dst p q n m))
def outerC (n m:Int):List Pt→Nat→CSt→CSt
 | [],_,s=>s
 | p::r,a,s=>outerC n m r (a+1) (innerC n m p a r (a+1) s)
theorem innerC_lt {n m:Int} {p:Pt} {a:Nat} {l:List Pt} {b:Nat} {s:CSt} (h:b<l.length):innerC n m p a (l.drop b) b s=innerC n m p a (l.drop (b+1)) (b+1) (cupd s a b (dst p l[b] n m)):=by
 rw [List.drop_eq_getElem_cons h,innerC]
theorem innerC_ge {n m:Int} {p:Pt} {a:Nat} {l:List Pt} {b:Nat} {s:CSt} (h:l.length≤b):innerC n m p a (l.drop b) b s=s:=by
 rw [List.drop_eq_nil_of_le h,innerC]
theorem outerC_lt {n m:Int} {l:List Pt} {a:Nat} {s:CSt} (h:a<l.length):outerC n m (l.drop a) a s=outerC n m (l.drop (a+1)) (a+1) (innerC n m l[a] a (l.drop (a+1)) (a+1) s):=by
 rw [List.drop_eq_getElem_cons h,outerC]
theorem outerC_ge {n m:Int} {l:List Pt} {a:Nat} {s:CSt} (h:l.length≤a):outerC n m (l.drop a) a s=s:=by
 rw [List.drop_eq_nil_of_le h,outerC]
def pairC (l:List Pt) (n m:Int):CSt:=outerC n m l 0 (0,0,0,0)
theorem pairC_ref {p q:Pt} {l:List Pt} {n m:Int} (hd:(dst p q n m).2≠0):pairC (p::q::l) n m=outerC n m (p::q::l) 0 (0,1,(dst p q n m).1,(dst p q n m).2):=by
 have e:cupd (0,0,0,0) 0 1 (dst p q n m)=cupd (0,1,(dst p q n m).1,(dst p q n m).2) 0 1 (dst p q n m):=by
  unfold cupd
  rw [if_pos (.inl rfl),if_neg (by simp only [not_or];exact ⟨hd,Int.lt_irrefl _⟩)]
 unfold pairC
 simp only [outerC,innerC,Nat.zero_add]
 rw [e]
def cgood (l:List Pt) (s:CSt):Prop:=chk s.2.2.1 s.2.2.2=0∧1≤s.2.2.2∧s.2.2.2≤1024∧0≤s.2.2.1∧s.2.2.1≤4503599627370496∧s.1<l.length∧s.2.1<l.length
theorem cgood_upd {l:List Pt} {n m:Int} {s:CSt} {a b:Nat} (h:s.2.2.2=0∨cgood l s) (hl:∀ p∈l,p.chk=0) (ht:askd n m=0) (ha:a<l.length) (hb:b<l.length):cgood l (cupd s a b (dst l[a] l[b] n m)):=by
 obtain ⟨x,_,_,d1,d2,d3,d4,d5⟩:=dst_ok (hl _ (List.getElem_mem ha)) (hl _ (List.getElem_mem hb)) ht
 unfold cupd
 split
 ·exact ⟨d1,d2,d3,d4,d5,ha,hb⟩
 ·rename_i hc
  rcases h with h|h
  ·exact absurd (.inl h) hc
  ·exact h
theorem cgood_inner {l:List Pt} {n m:Int} {a:Nat} (hl:∀ p∈l,p.chk=0) (ht:askd n m=0) (ha:a<l.length):∀ {k b:Nat} {s:CSt},k=l.length-b→(cgood l s∨s.2.2.2=0∧b<l.length)→cgood l (innerC n m l[a] a (l.drop b) b s):=by
 intro k
 induction k with
 | zero =>
  intro b s hk h
  rw [innerC_ge (by omega)]
  rcases h with h|h
  ·exact h
  ·omega
 | succ k ih =>
  intro b s hk h
  rw [innerC_lt (by omega)]
  exact ih (by omega) (.inl (cgood_upd (h.elim .inr fun h=>.inl h.1) hl ht ha (by omega)))
theorem cgood_outer {l:List Pt} {n m:Int} (hl:∀ p∈l,p.chk=0) (ht:askd n m=0):∀ {k a:Nat} {s:CSt},k=l.length-a→(cgood l s∨s.2.2.2=0∧a+1<l.length)→cgood l (outerC n m (l.drop a) a s):=by
 intro k
 induction k with
 | zero =>
  intro a s hk h
  rw [outerC_ge (by omega)]
  rcases h with h|h
  ·exact h
  ·omega
 | succ k ih =>
  intro a s hk h
  rw [outerC_lt (by omega)]
  exact ih (by omega) (.inl (cgood_inner hl ht (by omega) rfl (h.elim .inl fun h=>.inr h)))
theorem pairC_ok {l:List Pt} {n m:Int} (hl:∀ p∈l,p.chk=0) (ht:askd n m=0) (h2:2≤l.length):cgood l (pairC l n m) :=
 cgood_outer (a:=0) hl ht rfl (.inr ⟨rfl,by omega⟩)
def closV (l:List Pt) (n m:Int):Int × Int × Int × Int × Int :=
 if fchk l=0 then (if askd n m=0 then (if l.length<2 then (0,0,0,0,42) else
  ((l[(pairC l n m).1]?.getD default).id,(l[(pairC l n m).2.1]?.getD default).id,(pairC l n m).2.2.1,(pairC l n m).2.2.2,0)) else (0,0,0,0,askd n m)) else (0,0,0,0,fchk l)
abbrev retC (x:Int × Int × Int × Int × Int):DV:=.tup [.one (i64 x.1),.one (i64 x.2.1),.agg [i64 x.2.2.1,i64 x.2.2.2.1],.one (i64 x.2.2.2.2)]
end Go.Proofs.YtddbmpbihpkabaaGreat

namespace Go.Proofs.YtddbmpbihpkabaaGreat
open Go.RowKit Go.Sort Sx
set_option maxRecDepth 2000
theorem rsub_fn (p q r t:Int):FnOK Tryz.prog 135 (rat2 p q r t) (ret3 (subV p q r t)):=by
 refine fn_of_calls (fun _ _=>Tryz.call135 _ _) rfl rfl (fun h => ?_) (fun h w => ?_)
 ·simp only [WDV,WDCs,WDC,WDs,wd_i64,and_true]
  have:=subV_rng p q r t
  omega
 ·obtain ⟨⟨_,_,_,_⟩,_,_,_,_⟩:=wd2 h
  exact rsub_any p q r t w (by omega) (by omega) (by omega) (by omega) (by omega) (by omega) (by omega) (by omega)
theorem rat_eq {a b c d:Int} (h1:a=c) (h2:b=d):DV.c (.agg [i64 a,i64 b])=.c (rat c d):=by rw [h1,h2]
theorem roPlace_fn {p:Pt} {n m:Int} (hp:p.chk=0) (ht:askd n m=0):FnOK Tryz.prog 62 [p.dc,rat n m] (.c (rat (plc p n m).1 (plc p n m).2)):=by
 refine fn_ok (by kernel_rfl) ty_ok Tryz.func62 rfl (fun _ _=>Tryz.call62 _ _) rfl ?_
 intro hw
 clear hw
 have H:=kkAt_fn p.id p.a p.b n m
 rw [(plc_ok hp ht).1] at H
 exact zw
theorem roDistance_fn {p q:Pt} {n m:Int} (hp:p.chk=0) (hq:q.chk=0) (ht:askd n m=0):FnOK Tryz.prog 96 [p.dc,q.dc,rat n m] (.c (rat (dst p q n m).1 (dst p q n m).2)):=by
 refine fn_ok (by kernel_rfl) ty_ok Tryz.func96 rfl (fun _ _=>Tryz.call96 _ _) rfl ?_
 intro hw
 clear hw
 have H1:=roPlace_fn hp ht
 have H2:=roPlace_fn hq ht
 obtain ⟨s,e1,e2,e3,e4,e5,e6,e7⟩:=dst_ok hp hq ht
 have H3:=rsub_fn (plc p n m).1 (plc p n m).2 (plc q n m).1 (plc q n m).2
 rw [e1] at H3
 simp only [ret3] at H3
 clear e1
 generalize (dst p q n m).1=x at *
 generalize (dst p q n m).2=y at *
 rcases e2 with ⟨e2,e8⟩|⟨e2,e8⟩
 all_goals
  repeat' ((conv=>whnf);first|(with_reducible first|refine br_t ?_|refine br_f ?_|refine za ?_|refine zg ?_)|refine zp ?_|refine zq ?_|(with_reducible first|refine bc (fun h => ?_) (fun h => ?_)|refine zt ?_|refine zf ?_|refine br_i (fun h => ?_) (fun h => ?_))|refine zg ?_|refine zi ?_|refine zb ?_)
  all_goals conv=>whnf
  all_goals
   refine rat_eq ?_ rfl
   (first|omega|(rw [IntWalk.i64_in _ (by omega)];omega)|(simp;done))
set_option maxHeartbeats 2000000 in
theorem roPair_fn {l:List Pt} {n m:Int} (hl:∀ p∈l,p.chk=0) (ht:askd n m=0) (h2:2≤l.length) (h3:l.length≤1000000) :
  FnOK Tryz.prog 64 [fld l,rat n m] (.tup [.one (i64 (l[(pairC l n m).1]?.getD default).id),.one (i64 (l[(pairC l n m).2.1]?.getD default).id),rat (pairC l n m).2.2.1 (pairC l n m).2.2.2]):=by
 refine fn_ok (by kernel_rfl) ty_ok Tryz.func64 rfl (fun _ _=>Tryz.call64 _ _) rfl ?_
 intro hw
 clear hw
 have hel0:=pts_get (l:=l) (i:=0) (by omega)
 have hel1:=pts_get (l:=l) (i:=1) (by omega)
 have H1:=roDistance_fn (hl _ (List.getElem_mem (show 0<l.length by omega))) (hl _ (List.getElem_mem (show 1<l.length by omega))) ht
 obtain ⟨_,_,_,d1,d2,d3,d4,d5⟩:=dst_ok (hl _ (List.getElem_mem (show 0<l.length by omega))) (hl _ (List.getElem_mem (show 1<l.length by omega))) ht
 have hP:pairC l n m=outerC n m l 0 (0,1,(dst l[0] l[1] n m).1,(dst l[0] l[1] n m).2):=by
  rcases l with _|⟨p,_|⟨q,l⟩⟩
  ·simp at h2
  ·simp at h2
  ·exact pairC_ref (by show (dst p q n m).2≠0;have:1≤(dst p q n m).2:=d2;omega)
 repeat' ((conv=>whnf);first|(with_reducible first|refine br_t ?_|refine br_f ?_|refine za ?_|refine zg ?_)|rw [List.length_map]|refine zp ?_|refine zq ?_|(with_reducible first|refine bc (fun h => ?_) (fun h => ?_)|refine zt ?_|refine zf ?_|refine br_i (fun h => ?_) (fun h => ?_))|refine zg ?_|refine zi ?_|refine zb ?_)
 clear H1 hel0 hel1
 have hP2:=pairC_ok hl ht h2
 refine loop_J (by kernel_rfl) ty_ok (σ:=Nat × CSt) (fun x=>[(10,sV (.int .i64 x.1)),(7,sV (.int .i64 x.2.1)),(8,sV (.int .i64 x.2.2.1))]) (fun x=>[(9,.own [.d (i64 x.2.2.2.1),.d (i64 x.2.2.2.2)])])
  (fun x=>x.1≤l.length∧cgood l x.2∧outerC n m (l.drop x.1) x.1 x.2=pairC l n m) (fun x=>l.length-x.1) (0,0,1,(dst l[0] l[1] n m).1,(dst l[0] l[1] n m).2)
  ⟨by omega,⟨d1,d2,d3,d4,d5,by show 0<l.length;omega,by show 1<l.length;omega⟩,hP.symm⟩ ?_ ?_
 ·(conv=>whnf);exact zent
 rintro ⟨a,s⟩ ⟨k1,k2,k3⟩
 simp only at k1 k2 k3
 rcases Nat.lt_or_ge a l.length with hlt|hge
 ·rw [outerC_lt hlt] at k3
  repeat' ((conv=>whnf);first|(with_reducible first|refine br_t ?_|refine br_f ?_|refine za ?_|refine zg ?_)|rw [List.length_map]|refine zp ?_|refine zq ?_|(with_reducible first|refine bc (fun h => ?_) (fun h => ?_)|refine zt ?_|refine zf ?_|refine br_i (fun h => ?_) (fun h => ?_))|refine zg ?_|refine zi ?_|refine zb ?_)
  refine loop_J (by kernel_rfl) ty_ok (σ:=Nat × CSt) (fun x=>[(11,sV (.int .i64 x.1)),(7,sV (.int .i64 x.2.1)),(8,sV (.int .i64 x.2.2.1))]) (fun x=>[(9,.own [.d (i64 x.2.2.2.1),.d (i64 x.2.2.2.2)])])
   (fun x=>x.1≤l.length∧cgood l x.2∧innerC n m l[a] a (l.drop x.1) x.1 x.2=innerC n m l[a] a (l.drop (a+1)) (a+1) s) (fun x=>l.length-x.1) (a+1,s) ⟨by show _≤_;omega,k2,rfl⟩ ?_ ?_
  ·(conv=>whnf);exact zent
  rintro ⟨b,t⟩ ⟨g1,g2,g3⟩
  simp only at g1 g2 g3
  rcases Nat.lt_or_ge b l.length with hblt|hbge
  ·have hela:=pts_get hlt
   have helb:=pts_get hblt
   have H1:=roDistance_fn (hl _ (List.getElem_mem hlt)) (hl _ (List.getElem_mem hblt)) ht
   have g4:=cgood_upd (.inr g2) hl ht hlt hblt
   rw [innerC_lt hblt] at g3
   obtain ⟨c1,c2,c3,c4,c5,c6,c7⟩:=g2
   have H2:=rcompare_fn (dst l[a] l[b] n m).1 (dst l[a] l[b] n m).2 t.2.2.1 t.2.2.2
   obtain ⟨_,_,_,d1,d2,d3,d4,d5⟩:=dst_ok (hl _ (List.getElem_mem hlt)) (hl _ (List.getElem_mem hblt)) ht
   by_cases hc:(dst l[a] l[b] n m).1*t.2.2.2<t.2.2.1*(dst l[a] l[b] n m).2
   ·have e:cupd t a b (dst l[a] l[b] n m)=(a,b,(dst l[a] l[b] n m).1,(dst l[a] l[b] n m).2):=if_pos (.inr hc)
    have e2:cmpN ((dst l[a] l[b] n m).1*t.2.2.2) (t.2.2.1*(dst l[a] l[b] n m).2) = -1:=if_pos hc
    rw [e] at g3 g4
    rw [e2] at H2
    repeat' ((conv=>whnf);first|(with_reducible first|refine br_t ?_|refine br_f ?_|refine za ?_|refine zg ?_)|rw [List.length_map]|refine zp ?_|refine zq ?_|(with_reducible first|refine bc (fun h => ?_) (fun h => ?_)|refine zt ?_|refine zf ?_|refine br_i (fun h => ?_) (fun h => ?_))|refine zg ?_|refine zi ?_|refine zb ?_)
    all_goals conv=>whnf
    refine ⟨(b+1,a,b,(dst l[a] l[b] n m).1,(dst l[a] l[b] n m).2),⟨by show _≤_;omega,g4,g3⟩,?_,by show _-_<_-_;omega⟩
    (conv=>whnf);exact zent
   ·have e:cupd t a b (dst l[a] l[b] n m)=t:=if_neg (by omega)
    have e2:0≤cmpN ((dst l[a] l[b] n m).1*t.2.2.2) (t.2.2.1*(dst l[a] l[b] n m).2):=by unfold cmpN;rw [if_neg hc];split<;>omega
    rw [e] at g3
    generalize cmpN ((dst l[a] l[b] n m).1*t.2.2.2) (t.2.2.1*(dst l[a] l[b] n m).2)=z at H2 e2
    repeat' ((conv=>whnf);first|(with_reducible first|refine br_t ?_|refine br_f ?_|refine za ?_|refine zg ?_)|rw [List.length_map]|refine zp ?_|refine zq ?_|(with_reducible first|refine bc (fun h => ?_) (fun h => ?_)|refine zt ?_|refine zf ?_|refine br_i (fun h => ?_) (fun h => ?_))|refine zg ?_|refine zi ?_|refine zb ?_)
    all_goals conv=>whnf
    refine ⟨(b+1,t),⟨by show _≤_;omega,⟨c1,c2,c3,c4,c5,c6,c7⟩,g3⟩,?_,by show _-_<_-_;omega⟩
    (conv=>whnf);exact zent
  ·rw [innerC_ge hbge] at g3
   rw [← g3] at k3
   repeat' ((conv=>whnf);first|(with_reducible first|refine br_t ?_|refine br_f ?_|refine za ?_|refine zg ?_)|rw [List.length_map]|refine zp ?_|refine zq ?_|(with_reducible first|refine bc (fun h => ?_) (fun h => ?_)|refine zt ?_|refine zf ?_|refine br_i (fun h => ?_) (fun h => ?_))|refine zg ?_|refine zi ?_|refine zb ?_)
   all_goals conv=>whnf
   refine ⟨(a+1,t),⟨by show _≤_;omega,g2,k3⟩,?_,by show _-_<_-_;omega⟩
   (conv=>whnf);exact zent
 ·rw [outerC_ge hge] at k3
  rw [← k3]
  obtain ⟨c1,c2,c3,c4,c5,c6,c7⟩:=k2
  have hela:=pts_get c6
  have helb:=pts_get c7
  rw [List.getElem?_eq_getElem c6,List.getElem?_eq_getElem c7]
  repeat' ((conv=>whnf);first|(with_reducible first|refine br_t ?_|refine br_f ?_|refine za ?_|refine zg ?_)|rw [List.length_map]|refine zp ?_|refine zq ?_|(with_reducible first|refine bc (fun h => ?_) (fun h => ?_)|refine zt ?_|refine zf ?_|refine br_i (fun h => ?_) (fun h => ?_))|refine zg ?_|refine zi ?_|refine zb ?_)
  all_goals conv=>whnf
  all_goals rfl
end Go.Proofs.YtddbmpbihpkabaaGreat
