import Derived.Test.YtfkfficabeclcaaGreatDoorGLTNamesAX
import Derived.Test.YtfkfficabeclcaaGreatDoorGLTNamesAW
set_option linter.all false
namespace Go.Proofs.YtfkfficabeclcaaGreatDoor
open Go Go.RowKit Go.Sort Sx
open Go.Lib hiding intOf
def mtZ:Mt:=⟨0,0,0,0⟩
def mtC (m:Mt):Array Value:=#[.int .i64 m.n,.int .i64 m.d,.int .i64 m.i,.int .i64 m.j]
def mtV (m:Mt):List Value:=[.int .i64 m.n,.int .i64 m.d,.int .i64 m.i,.int .i64 m.j]
def mtX:List Str→Mt × Bool
 | [a,b,c]=>match frV a with
  | none=>(mtZ,false)
  | some q=>match atoV b with
   | none=>(⟨q.1,q.2,0,0⟩,false)
   | some i=>match atoV c with
    | none=>(⟨q.1,q.2,i,0⟩,false)
    | some j=>(⟨q.1,q.2,i,j⟩,true)
 | _=>(mtZ,false)
def rdMq:List Str→List Mt × Bool
 | []=>([],true)
 | a::b::c::r=>if (mtX [a,b,c]).2=true then ((mtX [a,b,c]).1::(rdMq r).1,(rdMq r).2) else ([],false)
 | _=>([],false)
theorem rdMq_is:∀ t:List Str,rdMs t=if (rdMq t).2=true then some (rdMq t).1 else none
 | []=>rfl
 | [_]=>rfl
 | [_,_]=>rfl
 | a::b::c::r=>by
  have ih:=rdMq_is r
  rcases h1:frV a with _|q
  ·simp [rdMs,rdMq,mtX,h1]
  ·rcases h2:atoV b with _|i
   ·simp [rdMs,rdMq,mtX,h1,h2]
   ·rcases h3:atoV c with _|j
    ·simp [rdMs,rdMq,mtX,h1,h2,h3]
    ·by_cases h4:(rdMq r).2=true
     ·simp [rdMs,rdMq,mtX,h1,h2,h3,ih,h4]
     ·simp [rdMs,rdMq,mtX,h1,h2,h3,ih,h4]
theorem rdMq_len:∀ t:List Str,(rdMq t).1.length≤t.length
 | []=>Nat.le_refl _
 | [_]=>Nat.zero_le _
 | [_,_]=>Nat.zero_le _
 | a::b::c::r=>by
  have ih:=rdMq_len r
  rw [rdMq]
  split<;>simp only [List.length_cons,List.length_nil]<;>omega
theorem rdMt_is (t:List Str):rdWP wMeet t=if (rdMq t).2=true then some ⟨0,0,0,0,0,(rdMq t).1⟩ else none:=by
 unfold rdWP
 rw [if_neg (by decide),if_neg (by decide),if_neg (by decide),if_neg (by decide),if_pos rfl,rdMq_is]
 split<;>rfl
theorem mtX_sc {R:Nat}:∀ {t:List Str},t.length=3→∀ W:World,W.heap[R]? = some (.cells (mtC mtZ) 31 (0,0))→(scanW t [.r R 0,.i R 2,.i R 3] W).2=(mtX t).2∧(scanW t [.r R 0,.i R 2,.i R 3] W).1.heap[R]? = some (.cells (mtC (mtX t).1) 31 (0,0))
 | [a,b,c],_,W,h=>by
  unfold scanW mtX
  simp only [Tg.put]
  cases frV a with
  | none=>exact ⟨rfl,h⟩
  | some q =>
   simp only [Option.map_some]
   unfold scanW
   simp only [Tg.put]
   have h1:=set6 1 (.int .i64 q.2) (set6 0 (.int .i64 q.1) h)
   cases atoV b with
   | none=>exact ⟨rfl,h1⟩
   | some i =>
    simp only [Option.map_some]
    unfold scanW
    simp only [Tg.put]
    have h2:=set6 2 (.int .i64 i) h1
    cases atoV c with
    | none=>exact ⟨rfl,h2⟩
    | some j =>
     simp only [Option.map_some]
     unfold scanW
     exact ⟨rfl,set6 3 (.int .i64 j) h2⟩
 | [],h,_,_=>by cases h
 | [_],h,_,_=>by cases h
 | [_,_],h,_,_=>by cases h
 | _::_::_::_::_,h,_,_=>by simp at h
theorem mtX_no {t:List Str} (h:t.length≠3):mtX t=(mtZ,false):=by
 match t,h with
 | [a,b,c],h=>exact absurd rfl h
 | [],_=>rfl
 | [_],_=>rfl
 | [_,_],_=>rfl
 | _::_::_::_::_,_=>rfl
def mtIn (m:Mt):Prop:=in64 m.n∧in64 m.d∧in64 m.i∧in64 m.j
theorem mtX_in (t:List Str):mtIn (mtX t).1:=by
 unfold mtX
 split
 ·rcases h1:frV _ with _|q
  ·exact ⟨in0,in0,in0,in0⟩
  ·rcases h2:atoV _ with _|i
   ·exact ⟨(frV_in h1).1,(frV_in h1).2,in0,in0⟩
   ·rcases h3:atoV _ with _|j
    ·exact ⟨(frV_in h1).1,(frV_in h1).2,atoV_in h2,in0⟩
    ·exact ⟨(frV_in h1).1,(frV_in h1).2,atoV_in h2,atoV_in h3⟩
 ·exact ⟨in0,in0,in0,in0⟩
theorem rep_ownMt {W:World} {n0:Nat} {v:Value} {l:List Mt} {M:Nat→Prop} (h:W.ownsRow n0 31 4 v l.length (l.flatMap mtV)) (hok:∀ p∈l,mtIn p) (hM:∀ b,M b→b<n0):Rep W M (mts l) v:=by
 rcases h.2 with ⟨rfl,h0⟩|⟨g,cap,cur,rfl,hb,hgb,h1,h2,h3,h4⟩
 ·have:l=[]:=List.eq_nil_of_length_eq_zero h0
  subst this
  exact .nil 4 none 0 (by decide) (fun _=>rfl)
 ·have hl:(l.map Mt.c).length=l.length:=List.length_map ..
  have hD:∀ (l:List Mt),(∀ p∈l,mtIn p)→DsR W M (l.map Mt.c).flatten (l.flatMap mtV):=by
   intro l
   induction l with
   | nil=>intro _;trivial
   | cons p l ih =>
    intro hok
    obtain ⟨q1,q2,q3,q4⟩:=hok p (List.mem_cons_self ..)
    rw [List.map_cons,List.flatten_cons,List.flatMap_cons]
    exact ⟨.v _ rfl q1,.v _ rfl q2,.v _ rfl q3,.v _ rfl q4,ih fun p hp=>hok p (List.mem_cons_of_mem _ hp)⟩
  have hlen:(l.flatMap mtV).length=4*l.length:=by
   clear h h1 h2 h3 h4 hD hok hl hgb
   induction l with
   | nil=>rfl
   | cons p l ih=>rw [List.flatMap_cons,List.length_append,ih,List.length_cons];show 4+_=_;omega
  have:=rep_of_row (M:=M) (b:=g) (off:=0) (cap:=cap) (k:=4) (l:=l.map Mt.c) (fun x hx=>by obtain ⟨p,_,rfl⟩:=List.mem_map.1 hx;rfl) (hD l hok) (fun i hi=>by
   rw [Nat.zero_add]
   simp only [World.cell?,hgb]
   rw [← h4] at hi ⊢
   rw [List.length_take] at hi
   rw [List.getElem?_take_of_lt (by omega)]
   simp) (by rw [hl];exact h1) (by unfold maxLen at h2;omega) (fun h=>by have:=hM g h;omega) (Array.getElem?_eq_some_iff.1 hgb).1
  rw [hl] at this
  exact this
def RdS (w:World) (ms:List Mt) (W:World):Prop :=
 (∃ v,W.heap[w.heap.size]? = some (.cells (rpC rp0 v) 28 (0,0))∧W.ownsRow (w.heap.size+4) 31 4 v ms.length (ms.flatMap mtV))∧(∀ m∈ms,mtIn m)∧Boxed W (w.heap.size+1) 4 (.bool false)∧w.heap.size+4≤W.heap.size∧Below w.heap.size w W
def RdI (w:World) (t:List Str) (pre:List Nat) (W:World):Prop :=
 ∃ ms,pre=List.range ms.length∧3*ms.length≤t.length∧(rdMq t).1=ms++(rdMq (t.drop (3*ms.length))).1∧(rdMq t).2=(rdMq (t.drop (3*ms.length))).2∧RdS w ms W
def RdX (w:World) (t:List Str) (W:World):Prop:=(rdMq t).2=false∧RdS w (rdMq t).1 W
theorem rdS_keep {w:World} {ms:List Mt} {A B:World} {row:Option Nat} (h:RdS w ms A) (hg:A.grownBy B row)
  (hr:∀ r,row=some r→(r=w.heap.size+2∨r=w.heap.size+3)∨(w.heap.size+4≤r∧∃ o:Obj,A.heap[r]? = some o∧o.isCells=false)):RdS w ms B:=by
 obtain ⟨⟨v,h4,h5⟩,h3,h7,h8,h9⟩:=h
 have kp:∀ {k:Nat} {o:Obj},k<w.heap.size+2→A.heap[k]? = some o→B.heap[k]? = some o:=fun {k o} hk ho=>(hg.block k (Array.getElem?_eq_some_iff.1 ho).1 fun e=>by
  rcases hr k e.symm with h|⟨h,_⟩<;>omega).trans ho
 refine ⟨⟨v,kp (by omega) h4,h5.kept hg ?_⟩,h3,kp (by omega) h7,Nat.le_trans h8 hg.size,below_row h9 (by omega) hg fun r e=>by rcases hr r e with h|⟨h,_⟩<;>omega⟩
 rcases h5.2 with ⟨rfl,_⟩|⟨g,cap,cur,rfl,hb,hgb,_⟩
 ·exact .inl rfl
 ·refine .inr fun e' => ?_
  have e2:row=some g:=by simpa [Value.ownBlock] using e'.symm
  rcases hr g e2 with h|⟨_,o,ho,hc⟩
  ·omega
  ·rw [hgb] at ho;cases ho;cases hc
theorem rep_chunk {W:World} {M:Nat→Prop} {t:List Str} {b o c k:Nat} (h:Rep W M (strs t) (.slice (some ⟨b,o,none⟩) t.length c)) (hk:3*k<t.length) (hc:t.length≤c):Rep W M (strs ((t.drop (3*k)).take 3)) (chk3 b o t.length k):=by
 have hl:(t.map fun s=>[str s]).length=t.length:=List.length_map ..
 rw [← hl] at h
 obtain ⟨m,hm⟩:∃ m,m=min 3 (t.length-3*k):=⟨_,rfl⟩
 have:=rep_sub h (p:=3*k) (q:=3*k+m) (m:=3*k+m) (by omega) (by rw [hl];omega) (Nat.le_refl _) (by omega)
 rw [if_neg (by omega),Nat.add_sub_cancel_left] at this
 unfold chk3
 rw [← hm]
 have e:((t.map fun s=>[str s]).take (3*k+m)).drop (3*k)=((t.drop (3*k)).take 3).map fun s=>[str s]:=by
  rw [List.drop_take,Nat.add_sub_cancel_left,List.map_take,List.map_drop]
  rcases Nat.lt_or_ge (t.length-3*k) 3 with h3|h3
  ·rw [List.take_of_length_le (by rw [List.length_drop,hl];omega),List.take_of_length_le (by rw [List.length_drop,hl];omega)]
  ·rw [show m=3 by omega]
 rw [e] at this
 have e2:(some (⟨b,o,none⟩:Addr)).map (·.add (3*k*1))=some ⟨b,o+3*k,none⟩:=by rw [Nat.mul_one,Option.map_some,Sx.add_plain]
 rw [e2] at this
 exact this
end Go.Proofs.YtfkfficabeclcaaGreatDoor

namespace Go.Proofs.YtfkfficabeclcaaGreatDoor
open Go Go.RowKit Go.Sort Sx
open Go.Lib hiding intOf
attribute [local go_sem] str_eql str_neq
theorem mt_scan {n lp:Nat} {t:List Str} {W:World} (hg:Gd W) (hl:t.length≤1000000) (hs:∀ x∈t,x.length≤1000000) {v:Value} (hv:Rep W (fun _=>False) (strs t) v) :
  CallsIn (Fence.wide.inRound lp) n Tryz.prog 45 #[v,.slice (some ⟨W.heap.size+1,0,none⟩) 3 3] ((W.alloc (.cells #[.int .i64 0,.int .i64 0,.int .i64 0,.int .i64 0] 31)).alloc (.cells #[.iface 93 (.pointer (some ⟨W.heap.size,0,none⟩)),.iface 136 (.pointer (some ⟨W.heap.size,2,none⟩)),.iface 136 (.pointer (some ⟨W.heap.size,3,none⟩))] 20)) fun e w'=>e=.returned (.bool (mtX t).2)∧w'.heap[W.heap.size]? = some (.cells (mtC (mtX t).1) 31 (0,0))∧Below W.heap.size W w':=by
 obtain ⟨W1,hW1⟩:∃ W1,W1=W.alloc (.cells (mtC mtZ) 31):=⟨_,rfl⟩
 have s1:W1.heap.size=W.heap.size+1:=by rw [hW1];simp
 have s2:W1.heap[W.heap.size]? = some (.cells (mtC mtZ) 31 (0,0)):=by rw [hW1];exact World.alloc_heap_new W _
 have s4:Below W.heap.size W W1:=by rw [hW1];exact (Below.refl _ _).alloc (Nat.le_refl _) _
 have h:=scan_one (ts:=[.r W.heap.size 0,.i W.heap.size 2,.i W.heap.size 3]) (R:=W.heap.size) (n:=W.heap.size) (b:=(mtX t).2) (by simp) (by simp [Tg.b]) hl (by simp) hs (gd_below s4 hg) s2 (by
  intro x hx
  simp only [List.mem_cons,List.not_mem_nil,or_false] at hx
  rcases hx with rfl|rfl|rfl
  ·exact ⟨cel6 s2 (by decide),cel6 s2 (by decide)⟩
  ·exact cel6 s2 (by decide)
  ·exact cel6 s2 (by decide)) (gd_size hg) (Nat.le_refl _) (hv.mono (Holds.of_below s4) fun b hb e=>absurd e (by omega)) (fun hlen W' h=>mtX_sc hlen W' h) (fun hlen=>by rw [mtX_no hlen];exact ⟨rfl,rfl⟩)
 rw [s1,hW1] at h
 refine CallsIn.inRound lp (callsIn_wide.2 (h.mono ?_))
 rintro e w' ⟨rfl,h1,h2,h3⟩
 rw [← hW1] at h3
 exact ⟨rfl,h1,s4.trans h3⟩
theorem cells4 {W:World} {b:Nat} {x y z m:Value} {T:TypeId} (h:W.heap[b]? = some (.cells #[x,y,z,m] T (0,0))) :
  W.cell? ⟨b,0,none⟩=some x∧W.cell? ⟨b,1,none⟩=some y∧W.cell? ⟨b,2,none⟩=some z∧W.cell? ⟨b,3,none⟩=some m:=by
 refine ⟨?_,?_,?_,?_⟩<;>simp [World.cell?,h]
theorem cM4 (W:World) (x y z m:Value):∀ (j:Nat) (u:Value),([x,y,z,m]:List Value)[j]? = some u→(W.alloc (.cells #[x,y,z,m] 31)).cell? ((⟨W.heap.size,0,none⟩:Addr).add j)=some u:=fun j u hj=>by
 have hn:=World.alloc_heap_new W (.cells #[x,y,z,m] 31)
 rw [Sx.add_plain,Nat.zero_add]
 simp only [World.cell?,hn]
 simpa using hj
theorem rdMq_step {t:List Str} {k:Nat} (h:3*k<t.length):((mtX ((t.drop (3*k)).take 3)).2=true→3*(k+1)≤t.length∧rdMq (t.drop (3*k))=((mtX ((t.drop (3*k)).take 3)).1::(rdMq (t.drop (3*(k+1)))).1,(rdMq (t.drop (3*(k+1)))).2))∧((mtX ((t.drop (3*k)).take 3)).2=false→rdMq (t.drop (3*k))=([],false)):=by
 have hd:t.drop (3*(k+1))=(t.drop (3*k)).drop 3:=by rw [List.drop_drop];rfl
 have hl:(t.drop (3*k)).length=t.length-3*k:=List.length_drop ..
 rw [hd]
 generalize t.drop (3*k)=l at *
 match l,hl with
 | [],hl=>simp at hl;omega
 | [a],_=>exact ⟨(fun h=>nomatch h),(fun _=>rfl)⟩
 | [a,b],_=>exact ⟨(fun h=>nomatch h),(fun _=>rfl)⟩
 | a::b::c::r,hl =>
  have e:(a::b::c::r).take 3=[a,b,c]:=rfl
  rw [e,rdMq]
  refine ⟨fun h=>⟨?_,by rw [if_pos h];rfl⟩,fun h=>by rw [if_neg (by rw [h];decide)]⟩
  simp only [List.length_cons] at hl
  omega
theorem range_mid {pre post:List Nat} {x N k:Nat} (h:pre++x::post=List.range N) (hp:pre=List.range k):x=k∧k<N:=by
 subst hp
 have hl:=congrArg List.length h
 have h2:=congrArg (fun l=>l[k]?) h
 simp only [List.length_append,List.length_cons,List.length_range] at hl
 rw [List.getElem?_append_right (by simp),List.length_range,Nat.sub_self,List.getElem?_range (by omega)] at h2
 simp only [List.getElem?_cons_zero] at h2
 injection h2 with h2
 exact ⟨h2,by omega⟩
theorem rpFin0_ok {w W:World} {n0:Nat} {cs:Array Value} {e':Value} (u v x y z m e:Value) (hc:cs.size=6) (h6:W.heap[n0]? = some (.cells cs 28 (0,0))) (h7:Boxed W (n0+1) 4 e') (hn:w.heap.size≤n0) (h8:Below w.heap.size w W) :
  (rpFin0 n0 W u v x y z m e).heap[n0]? = some (.cells #[u,v,x,y,z,m] 28 (0,0))∧Boxed (rpFin0 n0 W u v x y z m e) (n0+1) 4 e∧Below w.heap.size w (rpFin0 n0 W u v x y z m e)∧KeepsOthers W (rpFin0 n0 W u v x y z m e):=by
 obtain ⟨a1,a2,a3,_⟩:=rpFin_ok u v x y z m e hc h6 h7 hn h8
 rw [rpFin,drew_heap] at a1
 unfold Boxed at a2
 rw [rpFin,drew_heap] at a2
 refine ⟨a1,a2,?_,?_⟩
 ·unfold rpFin0
  exact ((((((h8.setCell hn _).setCell hn _).setCell hn _).setCell hn _).setCell hn _).setCell hn _).setCell (by show w.heap.size≤n0+1;omega) _
 ·unfold rpFin0
  exact ((((((KeepsOthers.setCell _ _ _).trans (KeepsOthers.setCell _ _ _)).trans (KeepsOthers.setCell _ _ _)).trans (KeepsOthers.setCell _ _ _)).trans (KeepsOthers.setCell _ _ _)).trans (KeepsOthers.setCell _ _ _)).trans (KeepsOthers.setCell _ _ _)
theorem owns_fin0 {W:World} {n0 base:Nat} {e:TypeId} {size k:Nat} {r:Value} {xs:List Value} (u v x y z m e':Value) (h:W.ownsRow base e size r k xs) (hb:n0+1<base):(rpFin0 n0 W u v x y z m e').ownsRow base e size r k xs:=by
 unfold rpFin0
 have hb0:n0<base:=by omega
 exact owns_set (owns_set (owns_set (owns_set (owns_set (owns_set (owns_set h _ _ hb0) _ _ hb0) _ _ hb0) _ _ hb0) _ _ hb0) _ _ hb0) _ _ hb
theorem owns_drew {W:World} {base:Nat} {e:TypeId} {size k:Nat} {r:Value} {xs:List Value} (h:W.ownsRow base e size r k xs):W.drew.ownsRow base e size r k xs:=h.kept (grownBy_drew W) (by cases hv:r.ownBlock<;>simp)
theorem read_endD {n:Nat} {w W:World} {M:Nat→Prop} {D:Nat} {tmps:Array Value} {r:Rp} {ms:Value} {ok:Bool} (h2:tmps[2]? = some (.pointer (some ⟨w.heap.size,0,none⟩))) (h3:tmps[3]? = some (.pointer (some ⟨w.heap.size+1,0,none⟩)))
  (h6:W.heap[w.heap.size]? = some (.cells (rpC r ms) 28 (0,0))) (h7:Boxed W (w.heap.size+1) 4 (.bool ok)) (hs:w.heap.size≤W.heap.size) (h8:Below w.heap.size w W) (hD:w.heap.size≤D) (hK:W.heap[D]? = some (.deferred (some []))) (hr:rpIn r) (hm:Rep (W.putObj D (.deferred none)) M (mts r.ms) ms) :
  bodyPostM Fence.wide n Tryz.prog Tryz.f43 (fun e w'=>∃ u,e=.returned u∧DVR w' M (retRb r ok) u∧Below w.heap.size w w') Exit.ret { tmps:=tmps,defers:=[{ target:=Target.collected D,args:=#[] }] } W:=by
 refine ⟨by simp,.inl ⟨_,_,rfl,run_takeDeferred hK,?_⟩⟩
 have ne:∀ {b:Nat} {cs:Array Value} {T:TypeId} {fr:Nat × Nat},W.heap[b]? = some (.cells cs T fr)→(W.putObj D (.deferred none)).heap[b]? = some (.cells cs T fr):=fun h=>(World.putObj_heap_other fun e=>by subst e;rw [hK] at h;cases h).trans h
 obtain ⟨q1,q2,q3,q4,q5⟩:=hr
 refine ⟨_,results_read tmps h2 h3 (ne h6) (ne h7),_,rfl,?_,?_⟩
 ·exact ⟨_,rfl,⟨_,rfl,.v _ rfl q1,.v _ rfl q2,.v _ rfl q3,.v _ rfl q4,.v _ rfl q5,hm,trivial⟩,.v _ rfl trivial,trivial⟩
 ·exact h8.grown (grownBy_putObj' W D _) hs (fun k e=>by cases e;omega)
set_option maxRecDepth 100000 in
set_option maxHeartbeats 4000000 in
theorem read_mt2 {n:Nat} (t:List Str) (hl:t.length≤1000000) (hs:∀ x∈t,x.length≤1000000) (w:World) (hg:Gd w) (M:Nat→Prop) (hM:∀ b,M b→b<w.heap.size) (b o c:Nat) (hc:t.length+1≤c) (hb:b<w.heap.size) (h0:w.cell? ⟨b,o,none⟩=some (bstr wMeet)) (hc1:¬ c=1) (hv2:Rep w M (strs t) (.slice (some ⟨b,o+1,none⟩) t.length (c-1))) (hn:6≤n) :
  CallsIn Fence.wide n Tryz.prog 43 #[.slice (some ⟨b,o,none⟩) (t.length+1) c] w fun e w'=>∃ u,e=.returned u∧DVR w' M (retRb ⟨0,0,0,0,0,(rdMq t).1⟩ (rdMq t).2) u∧Below w.heap.size w w':=by
 have hn1:1≤n:=by omega
 have hn2:1≤n-1:=by omega
 have hn3:1≤n-1-1:=by omega
 have hf1:Fence.wide.fn 45:=trivial
 have hf2:Fence.wide.fn 83:=trivial
 have hf3:Fence.wide.fn 132:=trivial
 have k1:(wMeet == [100,111,110,101])=false:=by decide
 have k2:(wMeet == [101,114,114,111,114])=false:=by decide
 have k3:(wMeet == [108,101,97,100,101,114])=false:=by decide
 have k4:(wMeet == [112,97,105,114])=false:=by decide
 have k5:(wMeet == [109,101,101,116,105,110,103,115])=true:=by decide
 refine callsIn_of_wp_marks Tryz.func43 rfl trivial ?_ rfl
 simp only [Tryz.ntmps43,List.size_toArray,List.length_cons,List.length_nil,Nat.reduceAdd,Nat.reduceSub,Array.replicate_succ,Array.replicate_zero,List.push_toArray,List.append_toArray,List.nil_append,List.cons_append]
 gi_wp2_with (gi_at_call 83;(with_reducible refine CallsIn.mono (chunk_in _ _ _ _) ?_);rintro e w1 ⟨rfl,rfl⟩)
 obtain ⟨W0,hW0⟩:∃ W0,W0=(((w.alloc (.cells #[.int .i64 0,.int .i64 0,.int .i64 0,.int .i64 0,.int .i64 0,.slice none 0 0] 28)).alloc (.cells #[.bool false] 4)).alloc (.cells #[.slice (some ⟨b,o+1,none⟩) t.length (c-1)] 63)).alloc (.cells #[.int .i64 3] 3):=⟨_,rfl⟩
 have hB0:Below w.heap.size w W0:=by rw [hW0];exact ((((Below.refl _ w).alloc (Nat.le_refl _) _).alloc (by simp) _).alloc (by simp<;>omega) _).alloc (by simp<;>omega) _
 have hs0:W0.heap.size=w.heap.size+4:=by rw [hW0];simp
 have j0:W0.heap[w.heap.size]? = some (.cells #[.int .i64 0,.int .i64 0,.int .i64 0,.int .i64 0,.int .i64 0,.slice none 0 0] 28 (0,0)):=by
  rw [hW0,Below.heap_alloc _ _ _ (by simp<;>omega),Below.heap_alloc _ _ _ (by simp<;>omega),Below.heap_alloc _ _ _ (by simp)]
  exact World.alloc_heap_new w _
 have j1:Boxed W0 (w.heap.size+1) 4 (.bool false):=by
  unfold Boxed
  rw [hW0,Below.heap_alloc _ _ _ (by simp<;>omega),Below.heap_alloc _ _ _ (by simp)]
  have:=World.alloc_heap_new (w.alloc (.cells #[.int .i64 0,.int .i64 0,.int .i64 0,.int .i64 0,.int .i64 0,.slice none 0 0] 28)) (.cells #[.bool false] 4)
  rwa [World.size_alloc] at this
 have j2:Boxed W0 (w.heap.size+2) 63 (.slice (some ⟨b,o+1,none⟩) t.length (c-1)):=by
  unfold Boxed
  rw [hW0,Below.heap_alloc _ _ _ (by simp)]
  have:=World.alloc_heap_new ((w.alloc (.cells #[.int .i64 0,.int .i64 0,.int .i64 0,.int .i64 0,.int .i64 0,.slice none 0 0] 28)).alloc (.cells #[.bool false] 4)) (.cells #[.slice (some ⟨b,o+1,none⟩) t.length (c-1)] 63)
  rwa [World.size_alloc,World.size_alloc] at this
 have j3:Boxed W0 (w.heap.size+3) 3 (.int .i64 3):=by
  rw [hW0]
  have:=World.alloc_heap_new (((w.alloc (.cells #[.int .i64 0,.int .i64 0,.int .i64 0,.int .i64 0,.int .i64 0,.slice none 0 0] 28)).alloc (.cells #[.bool false] 4)).alloc (.cells #[.slice (some ⟨b,o+1,none⟩) t.length (c-1)] 63)) (.cells #[.int .i64 3] 3)
  rwa [World.size_alloc,World.size_alloc,World.size_alloc] at this
 rw [← hW0]
 clear hW0
 refine wpIn_rangeEnds (α:=Nat) (encs:=fun k=>#[chk3 b (o+1) t.length k]) (bs:=fun k=>k=w.heap.size+2∨k=w.heap.size+3) (xs:=List.range ((t.length+2) / 3)) hn1 (gf:=132) (lb:=#[.pointer (some ⟨w.heap.size+2,0,none⟩),.pointer (some ⟨w.heap.size+3,0,none⟩)]) rfl (fun _ _=>Tryz.call132 _ _)
  (chunk_ends _ b (o+1) t.length _ (w.heap.size+2) (w.heap.size+3) (n-1) W0 (fun _=>rfl) j2 j3 (by omega) hl hn2) (fun b hb=>by rcases hb with rfl|rfl<;>omega) (fun _=>rfl) (RdI w t) (RdX w t)
  (fun pre A B row hi hg hr=>by
   rw [hs0] at hr
   obtain ⟨ms,e1,e2,e3,e4,e5⟩:=hi
   exact ⟨ms,e1,e2,e3,e4,rdS_keep e5 hg hr⟩) (fun A B row hi hg hr=>by
   rw [hs0] at hr
   exact ⟨hi.1,rdS_keep hi.2 hg fun r e=>.inr (hr r e)⟩)
  ⟨[],rfl,Nat.zero_le _,rfl,rfl,⟨_,j0,rfl,.inl ⟨rfl,rfl⟩⟩,by simp,j1,by omega,hB0⟩
  (fun x=>{ tmps:=#[.slice (some ⟨b,o,none⟩) (t.length+1) c,undef,.pointer (some ⟨w.heap.size,0,none⟩),.pointer (some ⟨w.heap.size+1,0,none⟩),undef,chk3 b (o+1) t.length x,undef,.slice (some ⟨b,o,none⟩) (t.length+1) c,.pointer (some ⟨b,o,none⟩),bstr wMeet,.bool false,.bool false,undef,.bool false,.bool false,undef,undef,undef,undef,undef,undef,undef,.bool false,.bool false,undef,undef,undef,undef,undef,undef,undef,undef,.bool false,.bool false,undef,undef,undef,undef,undef,undef,undef,undef,undef,undef,.bool true,.bool true,.slice (some ⟨b,o,none⟩) (t.length+1) c,.slice (some ⟨b,o+1,none⟩) t.length (c-1),.func (.func 132) #[] #[.pointer (some ⟨w.heap.size+2,0,none⟩),.pointer (some ⟨w.heap.size+3,0,none⟩)],chk3 b (o+1) t.length x,undef,undef,undef,undef,undef,undef,undef,undef,undef,undef,undef,undef,undef,undef,undef,undef,undef,undef,undef],defers:=[] }) ?_ ?_ ?_ ?_
 ·rintro lp x W K hK
  rw [zip1]
  show Code.wpIn _ _ _ _ _ { tmps:=#[.slice (some ⟨b,o,none⟩) (t.length+1) c,undef,.pointer (some ⟨w.heap.size,0,none⟩),.pointer (some ⟨w.heap.size+1,0,none⟩),undef,undef,undef,.slice (some ⟨b,o,none⟩) (t.length+1) c,.pointer (some ⟨b,o,none⟩),bstr wMeet,.bool false,.bool false,undef,.bool false,.bool false,undef,undef,undef,undef,undef,undef,undef,.bool false,.bool false,undef,undef,undef,undef,undef,undef,undef,undef,.bool false,.bool false,undef,undef,undef,undef,undef,undef,undef,undef,undef,undef,.bool true,.bool true,.slice (some ⟨b,o,none⟩) (t.length+1) c,.slice (some ⟨b,o+1,none⟩) t.length (c-1),.func (.func 132) #[] #[.pointer (some ⟨w.heap.size+2,0,none⟩),.pointer (some ⟨w.heap.size+3,0,none⟩)],chk3 b (o+1) t.length x,undef,undef,undef,undef,undef,undef,undef,undef,undef,undef,undef,undef,undef,undef,undef,undef,undef,undef,undef],defers:=[] } W
  gi_wp2_with (rw [Oper.semAt_eq _ _ _ (fun c h=>by cases h)];go_simp;try go_bits)
  exact hK
 ·rintro lp pre x post W hpost hI
  obtain ⟨ms,e1,e2,e3,e4,hS⟩:=hI
  obtain ⟨⟨v,h4,h5⟩,h3,h7,h8,h9⟩:=id hS
  replace h4:W.heap[w.heap.size]? = some (.cells #[.int .i64 0,.int .i64 0,.int .i64 0,.int .i64 0,.int .i64 0,v] 28 (0,0)):=h4
  obtain ⟨rfl,hkN⟩:=range_mid hpost e1
  have hk3:3*ms.length<t.length:=by omega
  have hgW:Gd W:=gd_below h9 hg
  obtain ⟨hy,hno⟩:=rdMq_step hk3
  have hrep:=rep_chunk (M:=fun _=>False) (hv2.mono (Holds.of_below h9) (fun _ _ h=>h.elim)) hk3 (by omega)
  have hcs:∀ x∈(t.drop (3*ms.length)).take 3,x.length≤1000000:=fun x hx=>hs x (List.mem_of_mem_drop (List.mem_of_mem_take hx))
  have cT:=mt_scan (n:=n-1-1-1) (lp:=lp) hgW (by rw [List.length_take];omega) hcs hrep
  have hpin:=mtX_in ((t.drop (3*ms.length)).take 3)
  clear hcs hrep
  generalize mtX ((t.drop (3*ms.length)).take 3)=p at *
  obtain ⟨⟨pn,pd,pi,pj⟩,pok⟩:=p
  simp only [mtC] at cT hy hno hpin
  obtain ⟨⟨a0,a1,a2,a3,a4,a5⟩,fz⟩:=cells6 h4
  have f0:=fz 0
  have f1:=fz 1
  have f2:=fz 2
  have f3:=fz 3
  have f4:=fz 4
  have f5:=fz 5
  have b0:=h7.cell
  have b1:=h7.frozen
  have kp:∀ {W':World},Below W.heap.size W W'→∀ b o,b≤w.heap.size+1→W'.cell? ⟨b,o,none⟩=W.cell? ⟨b,o,none⟩∧W'.frozen? ⟨b,o,none⟩=W.frozen? ⟨b,o,none⟩:=fun hb b o h=>⟨World.cell?_of_block (hb.block b (by omega)),World.frozen?_of_block (hb.block b (by omega))⟩
  obtain ⟨va,vk,vc,rfl⟩:∃ a k c,v=.slice a k c:=by
   rcases h5.2 with ⟨rfl,_⟩|⟨g,cap,cur,rfl,_⟩
   ·exact ⟨_,_,_,rfl⟩
   ·exact ⟨_,_,_,rfl⟩
  cases pok
  ·have hq:=hno rfl
   clear hy hno
   gi_wp2_with (first
    | (gi_at_call 45;(with_reducible refine CallsIn.mono cT ?_);rintro e W5 ⟨rfl,hm5,B5⟩;have g0:=(kp B5 w.heap.size 0 (by omega)).1.trans a0;have g1:=(kp B5 w.heap.size 1 (by omega)).1.trans a1;have g2:=(kp B5 w.heap.size 2 (by omega)).1.trans a2;have g3:=(kp B5 w.heap.size 3 (by omega)).1.trans a3;have g4:=(kp B5 w.heap.size 4 (by omega)).1.trans a4;have g5:=(kp B5 w.heap.size 5 (by omega)).1.trans a5;have z0:=(kp B5 w.heap.size 0 (by omega)).2.trans f0;have z1:=(kp B5 w.heap.size 1 (by omega)).2.trans f1;have z2:=(kp B5 w.heap.size 2 (by omega)).2.trans f2;have z3:=(kp B5 w.heap.size 3 (by omega)).2.trans f3;have z4:=(kp B5 w.heap.size 4 (by omega)).2.trans f4;have z5:=(kp B5 w.heap.size 5 (by omega)).2.trans f5;have y0:=(kp B5 (w.heap.size+1) 0 (by omega)).1.trans b0;have y1:=(kp B5 (w.heap.size+1) 0 (by omega)).2.trans b1)
    | (rw [Oper.semAt_eq _ _ _ (fun c h=>by cases h)];go_simp;try go_bits))
   have em:(rdMq t).1=ms:=by rw [e3,hq];simp
   have hR5:=(B5.block w.heap.size (by omega)).trans h4
   have hK5:Boxed W5 (w.heap.size+1) 4 (.bool false):=(B5.block _ (by omega)).trans h7
   obtain ⟨x1,x2,x3,x4⟩:=rpFin0_ok (w:=w) (.int .i64 0) (.int .i64 0) (.int .i64 0) (.int .i64 0) (.int .i64 0) (.slice va vk vc) (.bool false) rfl hR5 hK5 (Nat.le_refl _) (h9.trans (B5.mono h9.size))
   refine ⟨(ko_below B5).trans x4,by rw [e4,hq],?_⟩
   rw [em]
   exact ⟨⟨_,x1,owns_fin0 _ _ _ _ _ _ _ (owns_below h5 B5) (by omega)⟩,h3,x2,Nat.le_trans h8 (Nat.le_trans B5.size x4.size),x3⟩
  ·obtain ⟨hk4,hq⟩:=hy rfl
   clear hy hno
   obtain ⟨te,he,hsz,_,_,ti,tz,hi0,hsz0,hz0,hzs,_,hby⟩:=(ty_ok 26 (.sl 4 true [.v (.int .i64 0),.v (.int .i64 0),.v (.int .i64 0),.v (.int .i64 0)]) rfl).2.2.2
   have hee:te=31:=by
    have:=he.symm.trans Tryz.underlying26
    injection this with this;injection this
   subst hee
   have o3:∀ u∈([.int .i64 pn,.int .i64 pd,.int .i64 pi,.int .i64 pj]:List Value),u.oneCell'=true:=by simp [Value.oneCell']
   have q1:ms.length+1≤maxLen:=by unfold maxLen;omega
   have q2:(ms.length+1)*ti.bytes≤140737488355328:=by
    have:(ms.length+1)*ti.bytes≤1000001*65536:=Nat.mul_le_mul (by omega) hby
    omega
   gi_wp2_with (first
    | (gi_at_call 45;(with_reducible refine CallsIn.mono cT ?_);rintro e W5 ⟨rfl,hm5,B5⟩;have g5:=(kp B5 w.heap.size 5 (by omega)).1.trans a5;obtain ⟨u0,u1,u2,u3⟩:=cells4 hm5;have B15:=B5.alloc B5.size (.cells #[.int .i64 pn,.int .i64 pd,.int .i64 pi,.int .i64 pj] 31);have sB:=B15.size;have hrow:=owns_below h5 B15;have cM:=cM4 W5 (.int .i64 pn) (.int .i64 pd) (.int .i64 pi) (.int .i64 pj))
    | (gi_at_builtin;refine wpListIn_append_own _ rfl _ _ 26 rfl (w.heap.size+4) 31 ti tz 4 ti.bytes Tryz.underlying26 hi0 hz0 hsz0 rfl hzs (by decide) _ _ _ rfl hrow ⟨W5.heap.size,0,none⟩ 1 1 [.int .i64 pn,.int .i64 pd,.int .i64 pi,.int .i64 pj] rfl rfl cM o3 q1 q2 (Nat.le_trans h8 sB) ?_;intro v' W6 hown' hg3 hnil3;obtain ⟨g',cap',hv'⟩:=ownsRow_succ hown';subst hv';have c3:=(World.cell?_of_block (hg3.block w.heap.size (by omega) (own_ne h5 (by omega)))).trans ((kp B15 w.heap.size 5 (by omega)).1.trans a5);have c4:=(World.frozen?_of_block (hg3.block w.heap.size (by omega) (own_ne h5 (by omega)))).trans ((kp B15 w.heap.size 5 (by omega)).2.trans f5))
    | (rw [Oper.semAt_eq _ _ _ (fun c h=>by cases h)];go_simp;try go_bits))
   have hR6:=(hg3.block w.heap.size (by omega) (own_ne h5 (by omega))).trans ((B15.block w.heap.size (by omega)).trans h4)
   have h76:Boxed W6 (w.heap.size+1) 4 (.bool false):=(hg3.block (w.heap.size+1) (by omega) (own_ne h5 (by omega))).trans ((B15.block _ (by omega)).trans h7)
   refine ⟨((ko_below B15).trans (KeepsOthers.of_grownBy hg3 fun j o ej hj=>(own_cells hrow ej hj).1)).trans (KeepsOthers.setCell _ _ _),?_,ms++[⟨pn,pd,pi,pj⟩],?_,?_,?_,?_,⟨.slice (some ⟨g',0,none⟩) (ms.length+1) cap',?_,?_⟩,?_,?_,?_,?_⟩
   ·rintro b (rfl|rfl)
    ·exact (setCell_other (by show _≠w.heap.size;omega)).trans ((hg3.block _ (by omega) (own_ne h5 (by omega))).trans (B15.block _ (by omega)))
    ·exact (setCell_other (by show _≠w.heap.size;omega)).trans ((hg3.block _ (by omega) (own_ne h5 (by omega))).trans (B15.block _ (by omega)))
   ·rw [List.length_append,e1];exact (List.range_succ).symm
   ·rw [List.length_append];exact hk4
   ·rw [e3,hq,List.length_append];simp
   ·rw [e4,hq,List.length_append];rfl
   ·exact set6 5 _ hR6
   ·refine owns_set ?_ _ _ (by show w.heap.size<_;omega)
    simpa [mtV] using hown'
   ·intro q hq
    rcases List.mem_append.1 hq with hq|hq
    ·exact h3 q hq
    ·obtain rfl:=List.mem_singleton.1 hq;exact hpin
   ·exact setCell_o (by omega) h76
   ·exact Nat.le_trans h8 (Nat.le_trans sB (Nat.le_trans hg3.size (KeepsOthers.setCell _ _ _).size))
   ·exact (below_row (h9.trans (B15.mono h9.size)) (Nat.le_trans h9.size sB) hg3 fun r e=>Nat.le_trans (by omega) (own_base h5 e)).setCell (Nat.le_refl _) _
 ·intro D W hD hI hK
  rw [hs0] at hD
  obtain ⟨ms,e1,e2,e3,e4,hS⟩:=hI
  obtain ⟨⟨v,h4,h5⟩,h3,h7,h8,h9⟩:=id hS
  replace h4:W.heap[w.heap.size]? = some (.cells #[.int .i64 0,.int .i64 0,.int .i64 0,.int .i64 0,.int .i64 0,v] 28 (0,0)):=h4
  have hlen:=congrArg List.length e1
  rw [List.length_range,List.length_range] at hlen
  have hend:t.drop (3*ms.length)=[]:=List.drop_eq_nil_of_le (by omega)
  rw [hend] at e3 e4
  replace e3:(rdMq t).1=ms:=e3.trans (List.append_nil _)
  replace e4:(rdMq t).2=true:=e4
  clear e1 e2 hlen hend hS
  have b0:=h7.cell
  have b1:=h7.frozen
  obtain ⟨va,vk,vc,rfl⟩:∃ a k c,v=.slice a k c:=by
   rcases h5.2 with ⟨rfl,_⟩|⟨g,cap,cur,rfl,_⟩
   ·exact ⟨_,_,_,rfl⟩
   ·exact ⟨_,_,_,rfl⟩
  gi_wp2
  obtain ⟨W6,hW6⟩:∃ W6,W6=W.setCell ⟨w.heap.size+1,0,none⟩ (.bool true):=⟨_,rfl⟩
  have g6:W6.heap[w.heap.size]? = some (.cells #[.int .i64 0,.int .i64 0,.int .i64 0,.int .i64 0,.int .i64 0,.slice va vk vc] 28 (0,0)):=by rw [hW6];exact setCell_o (by omega) h4
  have g7:Boxed W6 (w.heap.size+1) 4 (.bool true):=by rw [hW6];exact h7.set _
  have g8:Below w.heap.size w W6:=by rw [hW6];exact h9.setCell (by show w.heap.size≤w.heap.size+1;omega) _
  have g9:W6.ownsRow (w.heap.size+4) 31 4 (.slice va vk vc) ms.length (ms.flatMap mtV):=by rw [hW6];exact owns_set h5 _ _ (by show w.heap.size+1<_;omega)
  have gD:W6.heap[D]? = some (.deferred (some [])):=by rw [hW6];exact setCell_o (by omega) hK
  rw [← hW6]
  clear hW6 b0 b1
  obtain ⟨⟨a0,a1,a2,a3,a4,a5⟩,fz⟩:=cells6 g6
  have f0:=fz 0
  have f1:=fz 1
  have f2:=fz 2
  have f3:=fz 3
  have f4:=fz 4
  have f5:=fz 5
  have e0:=g7.cell
  have e1:=g7.frozen
  gi_region
  gi_wp2
  obtain ⟨x1,x2,x3,x4⟩:=rpFin_ok (w:=w) (.int .i64 0) (.int .i64 0) (.int .i64 0) (.int .i64 0) (.int .i64 0) (.slice va vk vc) (.bool true) rfl g6 g7 (Nat.le_refl _) g8
  have xD:=(x4 D (by omega) (by omega)).trans gD
  have xr:(rpFin w.heap.size W6 (.int .i64 0) (.int .i64 0) (.int .i64 0) (.int .i64 0) (.int .i64 0) (.slice va vk vc) (.bool true)).ownsRow (w.heap.size+4) 31 4 (.slice va vk vc) ms.length (ms.flatMap mtV):=owns_drew (owns_fin0 _ _ _ _ _ _ _ g9 (by omega))
  rw [e3,e4]
  exact read_endD (r:=⟨0,0,0,0,0,ms⟩) rfl rfl x1 x2 x3.size x3 (by omega) xD ⟨in0,in0,in0,in0,in0⟩ (rep_ownMt (ownsRow_putObj xr _ xD rfl) h3 fun b hb=>by have:=hM b hb;omega)
 ·intro D W hD hX hK
  rw [hs0] at hD
  obtain ⟨e4,⟨v,h4,h5⟩,h3,h7,h8,h9⟩:=hX
  gi_wp2
  rw [e4]
  exact read_endD (r:=⟨0,0,0,0,0,(rdMq t).1⟩) rfl rfl h4 h7 h9.size h9 (by omega) hK ⟨in0,in0,in0,in0,in0⟩ (rep_ownMt (ownsRow_putObj h5 _ hK rfl) h3 fun b hb=>by have:=hM b hb;omega)
set_option maxRecDepth 100000 in
set_option maxHeartbeats 4000000 in
theorem read_mt1 {n:Nat} (t:List Str) (hl:t.length≤1000000) (hs:∀ x∈t,x.length≤1000000) (w:World) (hg:Gd w) (M:Nat→Prop) (hM:∀ b,M b→b<w.heap.size) (b o c:Nat) (hc:t.length+1≤c) (hb:b<w.heap.size) (h0:w.cell? ⟨b,o,none⟩=some (bstr wMeet)) (hc1:c=1) (hv2:Rep w M (strs t) (.slice (some ⟨b,o,none⟩) t.length 0)) (hn:6≤n) :
  CallsIn Fence.wide n Tryz.prog 43 #[.slice (some ⟨b,o,none⟩) (t.length+1) 1] w fun e w'=>∃ u,e=.returned u∧DVR w' M (retRb ⟨0,0,0,0,0,(rdMq t).1⟩ (rdMq t).2) u∧Below w.heap.size w w':=by
 have hn1:1≤n:=by omega
 have hn2:1≤n-1:=by omega
 have hn3:1≤n-1-1:=by omega
 have hf1:Fence.wide.fn 45:=trivial
 have hf2:Fence.wide.fn 83:=trivial
 have hf3:Fence.wide.fn 132:=trivial
 have k1:(wMeet == [100,111,110,101])=false:=by decide
 have k2:(wMeet == [101,114,114,111,114])=false:=by decide
 have k3:(wMeet == [108,101,97,100,101,114])=false:=by decide
 have k4:(wMeet == [112,97,105,114])=false:=by decide
 have k5:(wMeet == [109,101,101,116,105,110,103,115])=true:=by decide
 refine callsIn_of_wp_marks Tryz.func43 rfl trivial ?_ rfl
 simp only [Tryz.ntmps43,List.size_toArray,List.length_cons,List.length_nil,Nat.reduceAdd,Nat.reduceSub,Array.replicate_succ,Array.replicate_zero,List.push_toArray,List.append_toArray,List.nil_append,List.cons_append]
 gi_wp2_with (gi_at_call 83;(with_reducible refine CallsIn.mono (chunk_in _ _ _ _) ?_);rintro e w1 ⟨rfl,rfl⟩)
 obtain ⟨W0,hW0⟩:∃ W0,W0=(((w.alloc (.cells #[.int .i64 0,.int .i64 0,.int .i64 0,.int .i64 0,.int .i64 0,.slice none 0 0] 28)).alloc (.cells #[.bool false] 4)).alloc (.cells #[.slice (some ⟨b,o,none⟩) t.length 0] 63)).alloc (.cells #[.int .i64 3] 3):=⟨_,rfl⟩
 have hB0:Below w.heap.size w W0:=by rw [hW0];exact ((((Below.refl _ w).alloc (Nat.le_refl _) _).alloc (by simp) _).alloc (by simp<;>omega) _).alloc (by simp<;>omega) _
 have hs0:W0.heap.size=w.heap.size+4:=by rw [hW0];simp
 have j0:W0.heap[w.heap.size]? = some (.cells #[.int .i64 0,.int .i64 0,.int .i64 0,.int .i64 0,.int .i64 0,.slice none 0 0] 28 (0,0)):=by
  rw [hW0,Below.heap_alloc _ _ _ (by simp<;>omega),Below.heap_alloc _ _ _ (by simp<;>omega),Below.heap_alloc _ _ _ (by simp)]
  exact World.alloc_heap_new w _
 have j1:Boxed W0 (w.heap.size+1) 4 (.bool false):=by
  unfold Boxed
  rw [hW0,Below.heap_alloc _ _ _ (by simp<;>omega),Below.heap_alloc _ _ _ (by simp)]
  have:=World.alloc_heap_new (w.alloc (.cells #[.int .i64 0,.int .i64 0,.int .i64 0,.int .i64 0,.int .i64 0,.slice none 0 0] 28)) (.cells #[.bool false] 4)
  rwa [World.size_alloc] at this
 have j2:Boxed W0 (w.heap.size+2) 63 (.slice (some ⟨b,o,none⟩) t.length 0):=by
  unfold Boxed
  rw [hW0,Below.heap_alloc _ _ _ (by simp)]
  have:=World.alloc_heap_new ((w.alloc (.cells #[.int .i64 0,.int .i64 0,.int .i64 0,.int .i64 0,.int .i64 0,.slice none 0 0] 28)).alloc (.cells #[.bool false] 4)) (.cells #[.slice (some ⟨b,o,none⟩) t.length 0] 63)
  rwa [World.size_alloc,World.size_alloc] at this
 have j3:Boxed W0 (w.heap.size+3) 3 (.int .i64 3):=by
  rw [hW0]
  have:=World.alloc_heap_new (((w.alloc (.cells #[.int .i64 0,.int .i64 0,.int .i64 0,.int .i64 0,.int .i64 0,.slice none 0 0] 28)).alloc (.cells #[.bool false] 4)).alloc (.cells #[.slice (some ⟨b,o,none⟩) t.length 0] 63)) (.cells #[.int .i64 3] 3)
  rwa [World.size_alloc,World.size_alloc,World.size_alloc] at this
 rw [← hW0]
 clear hW0
 refine wpIn_rangeEnds (α:=Nat) (encs:=fun k=>#[chk3 b (o) t.length k]) (bs:=fun k=>k=w.heap.size+2∨k=w.heap.size+3) (xs:=List.range ((t.length+2) / 3)) hn1 (gf:=132) (lb:=#[.pointer (some ⟨w.heap.size+2,0,none⟩),.pointer (some ⟨w.heap.size+3,0,none⟩)]) rfl (fun _ _=>Tryz.call132 _ _)
  (chunk_ends _ b (o) t.length _ (w.heap.size+2) (w.heap.size+3) (n-1) W0 (fun _=>rfl) j2 j3 (by omega) hl hn2) (fun b hb=>by rcases hb with rfl|rfl<;>omega) (fun _=>rfl) (RdI w t) (RdX w t)
  (fun pre A B row hi hg hr=>by
   rw [hs0] at hr
   obtain ⟨ms,e1,e2,e3,e4,e5⟩:=hi
   exact ⟨ms,e1,e2,e3,e4,rdS_keep e5 hg hr⟩) (fun A B row hi hg hr=>by
   rw [hs0] at hr
   exact ⟨hi.1,rdS_keep hi.2 hg fun r e=>.inr (hr r e)⟩)
  ⟨[],rfl,Nat.zero_le _,rfl,rfl,⟨_,j0,rfl,.inl ⟨rfl,rfl⟩⟩,by simp,j1,by omega,hB0⟩
  (fun x=>{ tmps:=#[.slice (some ⟨b,o,none⟩) (t.length+1) 1,undef,.pointer (some ⟨w.heap.size,0,none⟩),.pointer (some ⟨w.heap.size+1,0,none⟩),undef,chk3 b (o) t.length x,undef,.slice (some ⟨b,o,none⟩) (t.length+1) 1,.pointer (some ⟨b,o,none⟩),bstr wMeet,.bool false,.bool false,undef,.bool false,.bool false,undef,undef,undef,undef,undef,undef,undef,.bool false,.bool false,undef,undef,undef,undef,undef,undef,undef,undef,.bool false,.bool false,undef,undef,undef,undef,undef,undef,undef,undef,undef,undef,.bool true,.bool true,.slice (some ⟨b,o,none⟩) (t.length+1) 1,.slice (some ⟨b,o,none⟩) t.length 0,.func (.func 132) #[] #[.pointer (some ⟨w.heap.size+2,0,none⟩),.pointer (some ⟨w.heap.size+3,0,none⟩)],chk3 b (o) t.length x,undef,undef,undef,undef,undef,undef,undef,undef,undef,undef,undef,undef,undef,undef,undef,undef,undef,undef,undef],defers:=[] }) ?_ ?_ ?_ ?_
 ·rintro lp x W K hK
  rw [zip1]
  show Code.wpIn _ _ _ _ _ { tmps:=#[.slice (some ⟨b,o,none⟩) (t.length+1) 1,undef,.pointer (some ⟨w.heap.size,0,none⟩),.pointer (some ⟨w.heap.size+1,0,none⟩),undef,undef,undef,.slice (some ⟨b,o,none⟩) (t.length+1) 1,.pointer (some ⟨b,o,none⟩),bstr wMeet,.bool false,.bool false,undef,.bool false,.bool false,undef,undef,undef,undef,undef,undef,undef,.bool false,.bool false,undef,undef,undef,undef,undef,undef,undef,undef,.bool false,.bool false,undef,undef,undef,undef,undef,undef,undef,undef,undef,undef,.bool true,.bool true,.slice (some ⟨b,o,none⟩) (t.length+1) 1,.slice (some ⟨b,o,none⟩) t.length 0,.func (.func 132) #[] #[.pointer (some ⟨w.heap.size+2,0,none⟩),.pointer (some ⟨w.heap.size+3,0,none⟩)],chk3 b (o) t.length x,undef,undef,undef,undef,undef,undef,undef,undef,undef,undef,undef,undef,undef,undef,undef,undef,undef,undef,undef],defers:=[] } W
  gi_wp2_with (rw [Oper.semAt_eq _ _ _ (fun c h=>by cases h)];go_simp;try go_bits)
  exact hK
 ·rintro lp pre x post W hpost hI
  obtain ⟨ms,e1,e2,e3,e4,hS⟩:=hI
  obtain ⟨⟨v,h4,h5⟩,h3,h7,h8,h9⟩:=id hS
  replace h4:W.heap[w.heap.size]? = some (.cells #[.int .i64 0,.int .i64 0,.int .i64 0,.int .i64 0,.int .i64 0,v] 28 (0,0)):=h4
  obtain ⟨rfl,hkN⟩:=range_mid hpost e1
  have hk3:3*ms.length<t.length:=by omega
  have hgW:Gd W:=gd_below h9 hg
  obtain ⟨hy,hno⟩:=rdMq_step hk3
  have hrep:=rep_chunk (M:=fun _=>False) (hv2.mono (Holds.of_below h9) (fun _ _ h=>h.elim)) hk3 (by omega)
  have hcs:∀ x∈(t.drop (3*ms.length)).take 3,x.length≤1000000:=fun x hx=>hs x (List.mem_of_mem_drop (List.mem_of_mem_take hx))
  have cT:=mt_scan (n:=n-1-1-1) (lp:=lp) hgW (by rw [List.length_take];omega) hcs hrep
  have hpin:=mtX_in ((t.drop (3*ms.length)).take 3)
  clear hcs hrep
  generalize mtX ((t.drop (3*ms.length)).take 3)=p at *
  obtain ⟨⟨pn,pd,pi,pj⟩,pok⟩:=p
  simp only [mtC] at cT hy hno hpin
  obtain ⟨⟨a0,a1,a2,a3,a4,a5⟩,fz⟩:=cells6 h4
  have f0:=fz 0
  have f1:=fz 1
  have f2:=fz 2
  have f3:=fz 3
  have f4:=fz 4
  have f5:=fz 5
  have b0:=h7.cell
  have b1:=h7.frozen
  have kp:∀ {W':World},Below W.heap.size W W'→∀ b o,b≤w.heap.size+1→W'.cell? ⟨b,o,none⟩=W.cell? ⟨b,o,none⟩∧W'.frozen? ⟨b,o,none⟩=W.frozen? ⟨b,o,none⟩:=fun hb b o h=>⟨World.cell?_of_block (hb.block b (by omega)),World.frozen?_of_block (hb.block b (by omega))⟩
  obtain ⟨va,vk,vc,rfl⟩:∃ a k c,v=.slice a k c:=by
   rcases h5.2 with ⟨rfl,_⟩|⟨g,cap,cur,rfl,_⟩
   ·exact ⟨_,_,_,rfl⟩
   ·exact ⟨_,_,_,rfl⟩
  cases pok
  ·have hq:=hno rfl
   clear hy hno
   gi_wp2_with (first
    | (gi_at_call 45;(with_reducible refine CallsIn.mono cT ?_);rintro e W5 ⟨rfl,hm5,B5⟩;have g0:=(kp B5 w.heap.size 0 (by omega)).1.trans a0;have g1:=(kp B5 w.heap.size 1 (by omega)).1.trans a1;have g2:=(kp B5 w.heap.size 2 (by omega)).1.trans a2;have g3:=(kp B5 w.heap.size 3 (by omega)).1.trans a3;have g4:=(kp B5 w.heap.size 4 (by omega)).1.trans a4;have g5:=(kp B5 w.heap.size 5 (by omega)).1.trans a5;have z0:=(kp B5 w.heap.size 0 (by omega)).2.trans f0;have z1:=(kp B5 w.heap.size 1 (by omega)).2.trans f1;have z2:=(kp B5 w.heap.size 2 (by omega)).2.trans f2;have z3:=(kp B5 w.heap.size 3 (by omega)).2.trans f3;have z4:=(kp B5 w.heap.size 4 (by omega)).2.trans f4;have z5:=(kp B5 w.heap.size 5 (by omega)).2.trans f5;have y0:=(kp B5 (w.heap.size+1) 0 (by omega)).1.trans b0;have y1:=(kp B5 (w.heap.size+1) 0 (by omega)).2.trans b1)
    | (rw [Oper.semAt_eq _ _ _ (fun c h=>by cases h)];go_simp;try go_bits))
   have em:(rdMq t).1=ms:=by rw [e3,hq];simp
   have hR5:=(B5.block w.heap.size (by omega)).trans h4
   have hK5:Boxed W5 (w.heap.size+1) 4 (.bool false):=(B5.block _ (by omega)).trans h7
   obtain ⟨x1,x2,x3,x4⟩:=rpFin0_ok (w:=w) (.int .i64 0) (.int .i64 0) (.int .i64 0) (.int .i64 0) (.int .i64 0) (.slice va vk vc) (.bool false) rfl hR5 hK5 (Nat.le_refl _) (h9.trans (B5.mono h9.size))
   refine ⟨(ko_below B5).trans x4,by rw [e4,hq],?_⟩
   rw [em]
   exact ⟨⟨_,x1,owns_fin0 _ _ _ _ _ _ _ (owns_below h5 B5) (by omega)⟩,h3,x2,Nat.le_trans h8 (Nat.le_trans B5.size x4.size),x3⟩
  ·obtain ⟨hk4,hq⟩:=hy rfl
   clear hy hno
   obtain ⟨te,he,hsz,_,_,ti,tz,hi0,hsz0,hz0,hzs,_,hby⟩:=(ty_ok 26 (.sl 4 true [.v (.int .i64 0),.v (.int .i64 0),.v (.int .i64 0),.v (.int .i64 0)]) rfl).2.2.2
   have hee:te=31:=by
    have:=he.symm.trans Tryz.underlying26
    injection this with this;injection this
   subst hee
   have o3:∀ u∈([.int .i64 pn,.int .i64 pd,.int .i64 pi,.int .i64 pj]:List Value),u.oneCell'=true:=by simp [Value.oneCell']
   have q1:ms.length+1≤maxLen:=by unfold maxLen;omega
   have q2:(ms.length+1)*ti.bytes≤140737488355328:=by
    have:(ms.length+1)*ti.bytes≤1000001*65536:=Nat.mul_le_mul (by omega) hby
    omega
   gi_wp2_with (first
    | (gi_at_call 45;(with_reducible refine CallsIn.mono cT ?_);rintro e W5 ⟨rfl,hm5,B5⟩;have g5:=(kp B5 w.heap.size 5 (by omega)).1.trans a5;obtain ⟨u0,u1,u2,u3⟩:=cells4 hm5;have B15:=B5.alloc B5.size (.cells #[.int .i64 pn,.int .i64 pd,.int .i64 pi,.int .i64 pj] 31);have sB:=B15.size;have hrow:=owns_below h5 B15;have cM:=cM4 W5 (.int .i64 pn) (.int .i64 pd) (.int .i64 pi) (.int .i64 pj))
    | (gi_at_builtin;refine wpListIn_append_own _ rfl _ _ 26 rfl (w.heap.size+4) 31 ti tz 4 ti.bytes Tryz.underlying26 hi0 hz0 hsz0 rfl hzs (by decide) _ _ _ rfl hrow ⟨W5.heap.size,0,none⟩ 1 1 [.int .i64 pn,.int .i64 pd,.int .i64 pi,.int .i64 pj] rfl rfl cM o3 q1 q2 (Nat.le_trans h8 sB) ?_;intro v' W6 hown' hg3 hnil3;obtain ⟨g',cap',hv'⟩:=ownsRow_succ hown';subst hv';have c3:=(World.cell?_of_block (hg3.block w.heap.size (by omega) (own_ne h5 (by omega)))).trans ((kp B15 w.heap.size 5 (by omega)).1.trans a5);have c4:=(World.frozen?_of_block (hg3.block w.heap.size (by omega) (own_ne h5 (by omega)))).trans ((kp B15 w.heap.size 5 (by omega)).2.trans f5))
    | (rw [Oper.semAt_eq _ _ _ (fun c h=>by cases h)];go_simp;try go_bits))
   have hR6:=(hg3.block w.heap.size (by omega) (own_ne h5 (by omega))).trans ((B15.block w.heap.size (by omega)).trans h4)
   have h76:Boxed W6 (w.heap.size+1) 4 (.bool false):=(hg3.block (w.heap.size+1) (by omega) (own_ne h5 (by omega))).trans ((B15.block _ (by omega)).trans h7)
   refine ⟨((ko_below B15).trans (KeepsOthers.of_grownBy hg3 fun j o ej hj=>(own_cells hrow ej hj).1)).trans (KeepsOthers.setCell _ _ _),?_,ms++[⟨pn,pd,pi,pj⟩],?_,?_,?_,?_,⟨.slice (some ⟨g',0,none⟩) (ms.length+1) cap',?_,?_⟩,?_,?_,?_,?_⟩
   ·rintro b (rfl|rfl)
    ·exact (setCell_other (by show _≠w.heap.size;omega)).trans ((hg3.block _ (by omega) (own_ne h5 (by omega))).trans (B15.block _ (by omega)))
    ·exact (setCell_other (by show _≠w.heap.size;omega)).trans ((hg3.block _ (by omega) (own_ne h5 (by omega))).trans (B15.block _ (by omega)))
   ·rw [List.length_append,e1];exact (List.range_succ).symm
   ·rw [List.length_append];exact hk4
   ·rw [e3,hq,List.length_append];simp
   ·rw [e4,hq,List.length_append];rfl
   ·exact set6 5 _ hR6
   ·refine owns_set ?_ _ _ (by show w.heap.size<_;omega)
    simpa [mtV] using hown'
   ·intro q hq
    rcases List.mem_append.1 hq with hq|hq
    ·exact h3 q hq
    ·obtain rfl:=List.mem_singleton.1 hq;exact hpin
   ·exact setCell_o (by omega) h76
   ·exact Nat.le_trans h8 (Nat.le_trans sB (Nat.le_trans hg3.size (KeepsOthers.setCell _ _ _).size))
   ·exact (below_row (h9.trans (B15.mono h9.size)) (Nat.le_trans h9.size sB) hg3 fun r e=>Nat.le_trans (by omega) (own_base h5 e)).setCell (Nat.le_refl _) _
 ·intro D W hD hI hK
  rw [hs0] at hD
  obtain ⟨ms,e1,e2,e3,e4,hS⟩:=hI
  obtain ⟨⟨v,h4,h5⟩,h3,h7,h8,h9⟩:=id hS
  replace h4:W.heap[w.heap.size]? = some (.cells #[.int .i64 0,.int .i64 0,.int .i64 0,.int .i64 0,.int .i64 0,v] 28 (0,0)):=h4
  have hlen:=congrArg List.length e1
  rw [List.length_range,List.length_range] at hlen
  have hend:t.drop (3*ms.length)=[]:=List.drop_eq_nil_of_le (by omega)
  rw [hend] at e3 e4
  replace e3:(rdMq t).1=ms:=e3.trans (List.append_nil _)
  replace e4:(rdMq t).2=true:=e4
  clear e1 e2 hlen hend hS
  have b0:=h7.cell
  have b1:=h7.frozen
  obtain ⟨va,vk,vc,rfl⟩:∃ a k c,v=.slice a k c:=by
   rcases h5.2 with ⟨rfl,_⟩|⟨g,cap,cur,rfl,_⟩
   ·exact ⟨_,_,_,rfl⟩
   ·exact ⟨_,_,_,rfl⟩
  gi_wp2
  obtain ⟨W6,hW6⟩:∃ W6,W6=W.setCell ⟨w.heap.size+1,0,none⟩ (.bool true):=⟨_,rfl⟩
  have g6:W6.heap[w.heap.size]? = some (.cells #[.int .i64 0,.int .i64 0,.int .i64 0,.int .i64 0,.int .i64 0,.slice va vk vc] 28 (0,0)):=by rw [hW6];exact setCell_o (by omega) h4
  have g7:Boxed W6 (w.heap.size+1) 4 (.bool true):=by rw [hW6];exact h7.set _
  have g8:Below w.heap.size w W6:=by rw [hW6];exact h9.setCell (by show w.heap.size≤w.heap.size+1;omega) _
  have g9:W6.ownsRow (w.heap.size+4) 31 4 (.slice va vk vc) ms.length (ms.flatMap mtV):=by rw [hW6];exact owns_set h5 _ _ (by show w.heap.size+1<_;omega)
  have gD:W6.heap[D]? = some (.deferred (some [])):=by rw [hW6];exact setCell_o (by omega) hK
  rw [← hW6]
  clear hW6 b0 b1
  obtain ⟨⟨a0,a1,a2,a3,a4,a5⟩,fz⟩:=cells6 g6
  have f0:=fz 0
  have f1:=fz 1
  have f2:=fz 2
  have f3:=fz 3
  have f4:=fz 4
  have f5:=fz 5
  have e0:=g7.cell
  have e1:=g7.frozen
  gi_region
  gi_wp2
  obtain ⟨x1,x2,x3,x4⟩:=rpFin_ok (w:=w) (.int .i64 0) (.int .i64 0) (.int .i64 0) (.int .i64 0) (.int .i64 0) (.slice va vk vc) (.bool true) rfl g6 g7 (Nat.le_refl _) g8
  have xD:=(x4 D (by omega) (by omega)).trans gD
  have xr:(rpFin w.heap.size W6 (.int .i64 0) (.int .i64 0) (.int .i64 0) (.int .i64 0) (.int .i64 0) (.slice va vk vc) (.bool true)).ownsRow (w.heap.size+4) 31 4 (.slice va vk vc) ms.length (ms.flatMap mtV):=owns_drew (owns_fin0 _ _ _ _ _ _ _ g9 (by omega))
  rw [e3,e4]
  exact read_endD (r:=⟨0,0,0,0,0,ms⟩) rfl rfl x1 x2 x3.size x3 (by omega) xD ⟨in0,in0,in0,in0,in0⟩ (rep_ownMt (ownsRow_putObj xr _ xD rfl) h3 fun b hb=>by have:=hM b hb;omega)
 ·intro D W hD hX hK
  rw [hs0] at hD
  obtain ⟨e4,⟨v,h4,h5⟩,h3,h7,h8,h9⟩:=hX
  gi_wp2
  rw [e4]
  exact read_endD (r:=⟨0,0,0,0,0,(rdMq t).1⟩) rfl rfl h4 h7 h9.size h9 (by omega) hK ⟨in0,in0,in0,in0,in0⟩ (rep_ownMt (ownsRow_putObj h5 _ hK rfl) h3 fun b hb=>by have:=hM b hb;omega)
theorem tread_fn (w0:Str) (t:List Str) (hl:t.length≤1000000) (hs:∀ x∈t,x.length≤1000000):∃ X b,X.ms.length≤1000000∧(rdWP w0 t=if b=true then some X else none)∧FnOK Tryz.prog 43 [.one (strs (w0::t))] (retRb X b):=by
 have key:∀ (X:Rp) (b:Bool),(∀ (w:World) (M:Nat→Prop) (v:Value),Gd w→(∀ b,M b→b<w.heap.size)→Rep w M (strs (w0::t)) v→CallsIn Fence.wide 6 Tryz.prog 43 #[v] w fun e w'=>∃ u,e=.returned u∧DVR w' M (retRb X b) u∧Below w.heap.size w w')→FnOK Tryz.prog 43 [.one (strs (w0::t))] (retRb X b):=by
  intro X b h w M vs hM hvs
  refine .inl ⟨43,Tryz.call43 _ _,?_⟩
  match vs,hvs with
  | [v],hvs=>exact callsIn_wide.1 (h w M v hM.gd hM.lt hvs.1)
  | [],hvs=>exact hvs.elim
  | _::_::_,hvs=>exact hvs.2.elim
 by_cases h1:w0=wDone
 ·subst h1
  exact ⟨rp0,true,Nat.zero_le _,rfl,key _ _ fun w M v hg hM hv=>read_dn t w M v hv (by omega)⟩
 by_cases h2:w0=wErr
 ·subst h2
  exact ⟨rpE (erX t).1,(erX t).2,Nat.zero_le _,erX_is t,key _ _ fun w M v hg hM hv=>read_er t hl hs w hg M hM v hv (by omega)⟩
 by_cases h3:w0=wLeader
 ·subst h3
  refine ⟨(ldX t).1,(ldX t).2,?_,ldX_is t,key _ _ fun w M v hg hM hv=>read_ld t hl hs w hg M hM v hv (by omega)⟩
  unfold ldX
  split
  ·rcases atoV _ with _|i
   ·exact Nat.zero_le _
   ·rcases frV _ with _|q<;>exact Nat.zero_le _
  ·exact Nat.zero_le _
 by_cases h4:w0=wPair
 ·subst h4
  refine ⟨(prX t).1,(prX t).2,?_,prX_is t,key _ _ fun w M v hg hM hv=>read_pr t hl hs w hg M hM v hv (by omega)⟩
  unfold prX
  split
  ·rcases atoV _ with _|i
   ·exact Nat.zero_le _
   ·rcases atoV _ with _|j
    ·exact Nat.zero_le _
    ·rcases frV _ with _|q<;>exact Nat.zero_le _
  ·exact Nat.zero_le _
 by_cases h5:w0=wMeet
 ·subst h5
  refine ⟨⟨0,0,0,0,0,(rdMq t).1⟩,(rdMq t).2,Nat.le_trans (rdMq_len t) hl,rdMt_is t,key _ _ fun w M v hg hM hv => ?_⟩
  obtain ⟨b,o,c,rfl,hc,hb,h0,r1,r2⟩:=read_arg hv
  by_cases hc1:c=1
  ·have:=read_mt1 (n:=6) t hl hs w hg M hM b o c hc hb h0 hc1 (r1 hc1) (Nat.le_refl _)
   subst hc1
   exact this
  ·exact read_mt2 (n:=6) t hl hs w hg M hM b o c hc hb h0 hc1 (r2 hc1) (Nat.le_refl _)
 ·refine ⟨rp0,false,Nat.zero_le _,?_,key _ _ fun w M v hg hM hv=>read_no w0 t h1 h2 h3 h4 h5 w M v hv (by omega)⟩
  unfold rdWP
  rw [if_neg h1,if_neg h2,if_neg h3,if_neg h4,if_neg h5]
  rfl
end Go.Proofs.YtfkfficabeclcaaGreatDoor

namespace Go.Proofs.YtfkfficabeclcaaGreatDoor
open Go Go.RowKit Go.Sort Sx
open Go.Lib hiding intOf
set_option maxRecDepth 2000
theorem tReadReply_fn (s:Str) (hs:s.length≤999999):FnOK Tryz.prog 15 [.one (str s)] (retRp (rreadP s)):=by
 unfold rreadP
 by_cases hb:110000<s.length
 ·rw [if_pos hb]
  simp only [retRp,Rp.dc,rp0,mts,List.map_nil]
  refine fn_ok (by kernel_rfl) ty_ok Tryz.func15 rfl (fun _ _=>Tryz.call15 _ _) rfl ?_
  intro hw
  clear hw
  repeat' ((conv=>whnf);first|(with_reducible first|refine br_t ?_|refine br_f ?_|refine za ?_|refine zg ?_)|refine zsl ?_|refine zsg ?_|refine zss ?_|refine zs1 ?_|refine zse ?_|refine zsn ?_|refine zsc ?_|(with_reducible first|refine zpa ?_|refine zqa ?_)|refine zp ?_|refine zq ?_|(with_reducible first|refine bc (fun h => ?_) (fun h => ?_)|refine zt ?_|refine zf ?_|refine br_i (fun h => ?_) (fun h => ?_))|refine zg ?_|refine zi ?_|refine zb ?_)
  all_goals conv=>whnf
  all_goals rfl
 rw [if_neg hb]
 have Hs:FnOK Tryz.prog 44 [.one (str s),.one (str [32])] (.c (.one (strs (spl 32 s)))):=split_fn (s:=s) (c:=32) (by omega)
 have hl1:=spl_len 32 s
 have hl2:=spl_each 32 s
 obtain ⟨w0,t,hL⟩:∃ w0 t,spl 32 s=w0::t:=by
  cases h:spl 32 s with
  | nil=>exact absurd h (spl_ne 32 s)
  | cons a b=>exact ⟨a,b,rfl⟩
 unfold rrdP
 rw [hL] at Hs hl1 hl2 ⊢
 simp only [List.headD_cons,List.tail_cons]
 have hlt:t.length≤1000000:=by simp only [List.length_cons] at hl1;omega
 obtain ⟨X,b,hX0,hX,Hr⟩:=tread_fn w0 t hlt fun x hx=>Nat.le_trans (hl2 x (List.mem_cons_of_mem _ hx)) (by omega)
 rw [hX]
 clear hX hl1 hl2 hL
 cases b
 ·rw [if_neg (by decide),show backR s none=(rp0,12) from rfl]
  obtain ⟨e,i,j,n,d,l⟩:=X
  simp only [retRb,retRp,Rp.dc,rp0,mts,List.map_nil] at Hr ⊢
  refine fn_ok (by kernel_rfl) ty_ok Tryz.func15 rfl (fun _ _=>Tryz.call15 _ _) rfl ?_
  intro hw
  clear hw
  repeat' ((conv=>whnf);first|(with_reducible first|refine br_t ?_|refine br_f ?_|refine za ?_|refine zg ?_)|refine zsl ?_|refine zsg ?_|refine zss ?_|refine zs1 ?_|refine zse ?_|refine zsn ?_|refine zsc ?_|(with_reducible first|refine zpa ?_|refine zqa ?_)|refine zp ?_|refine zq ?_|(with_reducible first|refine bc (fun h => ?_) (fun h => ?_)|refine zt ?_|refine zf ?_|refine br_i (fun h => ?_) (fun h => ?_))|refine zg ?_|refine zi ?_|refine zb ?_)
  all_goals conv=>whnf
  all_goals rfl
 ·rw [if_pos rfl]
  have Ht:=tReply_fn X hX0
  unfold replyV at Ht
  rcases br_cases X s with ⟨h1,h2,h⟩|⟨h1,h2,h⟩|⟨h1,h⟩
  ·rw [if_pos h1,h2] at Ht
   rw [h]
   clear h h1 h2
   obtain ⟨e,i,j,n,d,l⟩:=X
   simp only [retRb,retRp,Rp.dc,retS] at Hr Ht ⊢
   refine fn_ok (by kernel_rfl) ty_ok Tryz.func15 rfl (fun _ _=>Tryz.call15 _ _) rfl ?_
   intro hw
   clear hw
   repeat' ((conv=>whnf);first|(with_reducible first|refine br_t ?_|refine br_f ?_|refine za ?_|refine zg ?_)|refine zsl ?_|refine zsg ?_|refine zss ?_|refine zs1 ?_|refine zse ?_|refine zsn ?_|refine zsc ?_|(with_reducible first|refine zpa ?_|refine zqa ?_)|refine zp ?_|refine zq ?_|(with_reducible first|refine bc (fun h => ?_) (fun h => ?_)|refine zt ?_|refine zf ?_|refine br_i (fun h => ?_) (fun h => ?_))|refine zg ?_|refine zi ?_|refine zb ?_)
   all_goals conv=>whnf
   all_goals first|rfl|contradiction
  ·rw [if_pos h1] at Ht
   rw [h]
   obtain ⟨T,hT⟩:∃ T,T=rText X:=⟨_,rfl⟩
   rw [← hT] at h2 Ht
   clear h h1 hT
   obtain ⟨e,i,j,n,d,l⟩:=X
   simp only [retRb,retRp,Rp.dc,retS,rp0,mts,List.map_nil] at Hr Ht ⊢
   refine fn_ok (by kernel_rfl) ty_ok Tryz.func15 rfl (fun _ _=>Tryz.call15 _ _) rfl ?_
   intro hw
   clear hw
   repeat' ((conv=>whnf);first|(with_reducible first|refine br_t ?_|refine br_f ?_|refine za ?_|refine zg ?_)|refine zsl ?_|refine zsg ?_|refine zss ?_|refine zs1 ?_|refine zse ?_|refine zsn ?_|refine zsc ?_|(with_reducible first|refine zpa ?_|refine zqa ?_)|refine zp ?_|refine zq ?_|(with_reducible first|refine bc (fun h => ?_) (fun h => ?_)|refine zt ?_|refine zf ?_|refine br_i (fun h => ?_) (fun h => ?_))|refine zg ?_|refine zi ?_|refine zb ?_)
   all_goals conv=>whnf
   all_goals first|rfl|contradiction
  ·rw [if_neg (by omega)] at Ht
   rw [h]
   clear h h1
   obtain ⟨e,i,j,n,d,l⟩:=X
   simp only [retRb,retRp,Rp.dc,retS,rp0,mts,List.map_nil] at Hr Ht ⊢
   refine fn_ok (by kernel_rfl) ty_ok Tryz.func15 rfl (fun _ _=>Tryz.call15 _ _) rfl ?_
   intro hw
   clear hw
   repeat' ((conv=>whnf);first|(with_reducible first|refine br_t ?_|refine br_f ?_|refine za ?_|refine zg ?_)|refine zsl ?_|refine zsg ?_|refine zss ?_|refine zs1 ?_|refine zse ?_|refine zsn ?_|refine zsc ?_|(with_reducible first|refine zpa ?_|refine zqa ?_)|refine zp ?_|refine zq ?_|(with_reducible first|refine bc (fun h => ?_) (fun h => ?_)|refine zt ?_|refine zf ?_|refine br_i (fun h => ?_) (fun h => ?_))|refine zg ?_|refine zi ?_|refine zb ?_)
   all_goals conv=>whnf
   all_goals first|rfl|contradiction
end Go.Proofs.YtfkfficabeclcaaGreatDoor

namespace Go.Proofs.YtfkfficabeclcaaGreatDoor
open Go Go.RowKit Go.Sort Sx
open Go.Lib hiding intOf
set_option maxRecDepth 2000
theorem roSameM_fn (a b:Md):FnOK Tryz.prog 20 [a.dc,b.dc] (.c (.one (bol (decide (a=b))))):=roSameModel_fn a b
theorem TLis_fn (r:Rp) (w:Str) (h1:replyV r=(w,0)) (h2:rreadP w=(r,0)) (hl:r.ms.length≤1000000) (hw:w.length≤999999):FnOK Tryz.prog 8 [r.dc,.one (str w)] (.c (.one (bol true))):=by
 have R1:=tReply_fn r hl
 have R2:=tReadReply_fn w hw
 have S1:=roSame_fn r r
 rw [h1] at R1
 rw [h2] at R2
 simp only [decide_true] at S1
 clear h1 h2
 obtain ⟨e,i,j,n,d,l⟩:=r
 simp only [retS,retRp,Rp.dc] at *
 refine fn_ok (by kernel_rfl) ty_ok Tryz.func8 rfl (fun _ _=>Tryz.call8 _ _) rfl ?_
 intro hw
 clear hw
 repeat' ((conv=>whnf);first|(with_reducible first|refine br_t ?_|refine br_f ?_|refine za ?_|refine zg ?_)|refine zsl ?_|refine zsg ?_|refine zss ?_|refine zs1 ?_|refine zse ?_|refine zsn ?_|refine zsc ?_|(with_reducible first|refine zpa ?_|refine zqa ?_)|refine zp ?_|refine zq ?_|(with_reducible first|refine bc (fun h => ?_) (fun h => ?_)|refine zt ?_|refine zf ?_|refine br_i (fun h => ?_) (fun h => ?_))|refine zg ?_|refine zi ?_|refine zb ?_)
 all_goals conv=>whnf
 all_goals first|rfl|exact r_bool (by simp)
theorem TLstands_fn (m:Md) (w:Str) (h1:standV m=(w,0)) (h2:sreadP w=(m,0)) (hw:w.length≤999999):FnOK Tryz.prog 13 [m.dc,.one (str w)] (.c (.one (bol true))):=by
 have R1:=tStanding_fn m
 have R2:=tReadStanding_fn w hw
 have S1:=roSameM_fn m m
 rw [h1] at R1
 rw [h2] at R2
 simp only [decide_true] at S1
 clear h1 h2
 obtain ⟨n,d,l⟩:=m
 simp only [retS,retMe,Md.dc] at *
 refine fn_ok (by kernel_rfl) ty_ok Tryz.func13 rfl (fun _ _=>Tryz.call13 _ _) rfl ?_
 intro hw
 clear hw
 repeat' ((conv=>whnf);first|(with_reducible first|refine br_t ?_|refine br_f ?_|refine za ?_|refine zg ?_)|refine zsl ?_|refine zsg ?_|refine zss ?_|refine zs1 ?_|refine zse ?_|refine zsn ?_|refine zsc ?_|(with_reducible first|refine zpa ?_|refine zqa ?_)|refine zp ?_|refine zq ?_|(with_reducible first|refine bc (fun h => ?_) (fun h => ?_)|refine zt ?_|refine zf ?_|refine br_i (fun h => ?_) (fun h => ?_))|refine zg ?_|refine zi ?_|refine zb ?_)
 all_goals conv=>whnf
 all_goals first|rfl|exact r_bool (by simp)
theorem TLnone_fn (w:Str) (h2:rreadP w=(rp0,12)) (hw:w.length≤999999):FnOK Tryz.prog 12 [.one (str w)] (.c (.one (bol true))):=by
 have R2:=tReadReply_fn w hw
 have S1:=roSame_fn rp0 rp0
 rw [h2] at R2
 simp only [decide_true] at S1
 clear h2
 simp only [retRp,Rp.dc,rp0,mts,List.map_nil] at *
 refine fn_ok (by kernel_rfl) ty_ok Tryz.func12 rfl (fun _ _=>Tryz.call12 _ _) rfl ?_
 intro hw
 clear hw
 repeat' ((conv=>whnf);first|(with_reducible first|refine br_t ?_|refine br_f ?_|refine za ?_|refine zg ?_)|refine zsl ?_|refine zsg ?_|refine zss ?_|refine zs1 ?_|refine zse ?_|refine zsn ?_|refine zsc ?_|(with_reducible first|refine zpa ?_|refine zqa ?_)|refine zp ?_|refine zq ?_|(with_reducible first|refine bc (fun h => ?_) (fun h => ?_)|refine zt ?_|refine zf ?_|refine br_i (fun h => ?_) (fun h => ?_))|refine zg ?_|refine zi ?_|refine zb ?_)
 all_goals conv=>whnf
 all_goals first|rfl|exact r_bool (by simp)
theorem TLform_fn (w:Str) (h2:sreadP w=(⟨0,0,[]⟩,12)) (hw:w.length≤999999):FnOK Tryz.prog 14 [.one (str w)] (.c (.one (bol true))):=by
 have R2:=tReadStanding_fn w hw
 have S1:=roSameM_fn ⟨0,0,[]⟩ ⟨0,0,[]⟩
 rw [h2] at R2
 simp only [decide_true] at S1
 clear h2
 simp only [retMe,Md.dc,pts,List.map_nil] at *
 refine fn_ok (by kernel_rfl) ty_ok Tryz.func14 rfl (fun _ _=>Tryz.call14 _ _) rfl ?_
 intro hw
 clear hw
 repeat' ((conv=>whnf);first|(with_reducible first|refine br_t ?_|refine br_f ?_|refine za ?_|refine zg ?_)|refine zsl ?_|refine zsg ?_|refine zss ?_|refine zs1 ?_|refine zse ?_|refine zsn ?_|refine zsc ?_|(with_reducible first|refine zpa ?_|refine zqa ?_)|refine zp ?_|refine zq ?_|(with_reducible first|refine bc (fun h => ?_) (fun h => ?_)|refine zt ?_|refine zf ?_|refine br_i (fun h => ?_) (fun h => ?_))|refine zg ?_|refine zi ?_|refine zb ?_)
 all_goals conv=>whnf
 all_goals first|rfl|exact r_bool (by simp)
theorem reply_back {r:Rp} (h:rchk r=0) (hf:rin r) (hl:(rText r).length≤110000):replyV r=(rText r,0)∧rreadP (rText r)=(r,0):=by
 refine ⟨by unfold replyV;rw [if_pos h],?_⟩
 unfold rreadP
 rw [if_neg (by omega)]
 exact rrdP_is.of r ⟨h,hf⟩
theorem stand_back {m:Md} (h:mchk m=0):standV m=(stT m,0)∧sreadP (stT m)=(m,0):=by
 have hl:=stT_len h
 refine ⟨by unfold standV;rw [if_pos h],?_⟩
 unfold sreadP
 rw [if_neg (by omega)]
 exact srdP_is.of m h
end Go.Proofs.YtfkfficabeclcaaGreatDoor
