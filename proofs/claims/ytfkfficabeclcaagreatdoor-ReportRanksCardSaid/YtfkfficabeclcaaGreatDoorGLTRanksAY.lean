import Derived.Test.YtfkfficabeclcaaGreatDoorGLTRanksAX
import Derived.Test.YtfkfficabeclcaaGreatDoorGLTRanksAV
import Derived.Test.YtfkfficabeclcaaGreatDoorGLTRanksAW
set_option linter.all false
namespace Go.Proofs.YtfkfficabeclcaaGreatDoor
open Go Go.RowKit Go.Sort Sx
open Go.Lib hiding intOf
attribute [local go_sem] str_eql str_neq
theorem mt_scan {n lp:Nat} {t:List Str} {W:World} (hg:Gd W) (hl:t.length≤1000000) (hs:∀ x∈t,x.length≤1000000) {v:Value} (hv:Rep W (fun _=>False) (strs t) v) :
  CallsIn (Fence.wide.inRound lp) n Tryz.prog 45 #[v,.slice (some ⟨W.heap.size+1,0,none⟩) 3 3] ((W.alloc (.cells #[.int .i64 0,.int .i64 0,.int .i64 0,.int .i64 0] 31)).alloc (.cells #[.iface 93 (.pointer (some ⟨W.heap.size,0,none⟩)),.iface 136 (.pointer (some ⟨W.heap.size,2,none⟩)),.iface 136 (.pointer (some ⟨W.heap.size,3,none⟩))] 20)) fun e w'=>e=.returned (.bool (mtX t).2)∧w'.heap[W.heap.size]? = some (.cells (mtC (mtX t).1) 31 (0,0))∧Below W.heap.size W w':=by
 obtain ⟨W1,hW1⟩:∃ W1,W1=W.alloc (.cells (mtC mtZ) 31):=⟨_,rfl⟩
 have s1:W1.heap.size=W.heap.size+1:=by rw [hW1];simp
 have s2:W1.heap[W.heap.size]? = some (.cells (mtC mtZ) 31 (0,0)):=by rw [hW1];exact World.alloc_heap_new W _
 have s4:Below W.heap.size W W1:=by rw [hW1];exact (Below.refl _ _).alloc (Nat.le_refl _) _
 have h:=scan_one (ts:=[.r W.heap.size 0,.i W.heap.size 2,.i W.heap.size 3]) (R:=W.heap.size) (n:=W.heap.size) (b:=(mtX t).2) (by simp) (by simp [Tg.b]) hl (by simp) hs (gd_below s4 hg) s2 (by
  intro x hx
  simp only [List.mem_cons,List.not_mem_nil,or_false] at hx
  rcases hx with rfl|rfl|rfl
  ·exact ⟨cel6 s2 (by decide),cel6 s2 (by decide)⟩
  ·exact cel6 s2 (by decide)
  ·exact cel6 s2 (by decide)) (gd_size hg) (Nat.le_refl _) (hv.mono (Holds.of_below s4) fun b hb e=>absurd e (by omega)) (fun hlen W' h=>mtX_sc hlen W' h) (fun hlen=>by rw [mtX_no hlen];exact ⟨rfl,rfl⟩)
 rw [s1,hW1] at h
 refine CallsIn.inRound lp (callsIn_wide.2 (h.mono ?_))
 rintro e w' ⟨rfl,h1,h2,h3⟩
 rw [← hW1] at h3
 exact ⟨rfl,h1,s4.trans h3⟩
theorem cells4 {W:World} {b:Nat} {x y z m:Value} {T:TypeId} (h:W.heap[b]? = some (.cells #[x,y,z,m] T (0,0))) :
  W.cell? ⟨b,0,none⟩=some x∧W.cell? ⟨b,1,none⟩=some y∧W.cell? ⟨b,2,none⟩=some z∧W.cell? ⟨b,3,none⟩=some m:=by
 refine ⟨?_,?_,?_,?_⟩<;>simp [World.cell?,h]
theorem cM4 (W:World) (x y z m:Value):∀ (j:Nat) (u:Value),([x,y,z,m]:List Value)[j]? = some u→(W.alloc (.cells #[x,y,z,m] 31)).cell? ((⟨W.heap.size,0,none⟩:Addr).add j)=some u:=fun j u hj=>by
 have hn:=World.alloc_heap_new W (.cells #[x,y,z,m] 31)
 rw [Sx.add_plain,Nat.zero_add]
 simp only [World.cell?,hn]
 simpa using hj
theorem rdMq_step {t:List Str} {k:Nat} (h:3*k<t.length):((mtX ((t.drop (3*k)).take 3)).2=true→3*(k+1)≤t.length∧rdMq (t.drop (3*k))=((mtX ((t.drop (3*k)).take 3)).1::(rdMq (t.drop (3*(k+1)))).1,(rdMq (t.drop (3*(k+1)))).2))∧((mtX ((t.drop (3*k)).take 3)).2=false→rdMq (t.drop (3*k))=([],false)):=by
 have hd:t.drop (3*(k+1))=(t.drop (3*k)).drop 3:=by rw [List.drop_drop];rfl
 have hl:(t.drop (3*k)).length=t.length-3*k:=List.length_drop ..
 rw [hd]
 generalize t.drop (3*k)=l at *
 match l,hl with
 | [],hl=>simp at hl;omega
 | [a],_=>exact ⟨(fun h=>nomatch h),(fun _=>rfl)⟩
 | [a,b],_=>exact ⟨(fun h=>nomatch h),(fun _=>rfl)⟩
 | a::b::c::r,hl =>
  have e:(a::b::c::r).take 3=[a,b,c]:=rfl
  rw [e,rdMq]
  refine ⟨fun h=>⟨?_,by rw [if_pos h];rfl⟩,fun h=>by rw [if_neg (by rw [h];decide)]⟩
  simp only [List.length_cons] at hl
  omega
theorem range_mid {pre post:List Nat} {x N k:Nat} (h:pre++x::post=List.range N) (hp:pre=List.range k):x=k∧k<N:=by
 subst hp
 have hl:=congrArg List.length h
 have h2:=congrArg (fun l=>l[k]?) h
 simp only [List.length_append,List.length_cons,List.length_range] at hl
 rw [List.getElem?_append_right (by simp),List.length_range,Nat.sub_self,List.getElem?_range (by omega)] at h2
 simp only [List.getElem?_cons_zero] at h2
 injection h2 with h2
 exact ⟨h2,by omega⟩
theorem rpFin0_ok {w W:World} {n0:Nat} {cs:Array Value} {e':Value} (u v x y z m e:Value) (hc:cs.size=6) (h6:W.heap[n0]? = some (.cells cs 28 (0,0))) (h7:Boxed W (n0+1) 4 e') (hn:w.heap.size≤n0) (h8:Below w.heap.size w W) :
  (rpFin0 n0 W u v x y z m e).heap[n0]? = some (.cells #[u,v,x,y,z,m] 28 (0,0))∧Boxed (rpFin0 n0 W u v x y z m e) (n0+1) 4 e∧Below w.heap.size w (rpFin0 n0 W u v x y z m e)∧KeepsOthers W (rpFin0 n0 W u v x y z m e):=by
 obtain ⟨a1,a2,a3,_⟩:=rpFin_ok u v x y z m e hc h6 h7 hn h8
 rw [rpFin,drew_heap] at a1
 unfold Boxed at a2
 rw [rpFin,drew_heap] at a2
 refine ⟨a1,a2,?_,?_⟩
 ·unfold rpFin0
  exact ((((((h8.setCell hn _).setCell hn _).setCell hn _).setCell hn _).setCell hn _).setCell hn _).setCell (by show w.heap.size≤n0+1;omega) _
 ·unfold rpFin0
  exact ((((((KeepsOthers.setCell _ _ _).trans (KeepsOthers.setCell _ _ _)).trans (KeepsOthers.setCell _ _ _)).trans (KeepsOthers.setCell _ _ _)).trans (KeepsOthers.setCell _ _ _)).trans (KeepsOthers.setCell _ _ _)).trans (KeepsOthers.setCell _ _ _)
theorem owns_fin0 {W:World} {n0 base:Nat} {e:TypeId} {size k:Nat} {r:Value} {xs:List Value} (u v x y z m e':Value) (h:W.ownsRow base e size r k xs) (hb:n0+1<base):(rpFin0 n0 W u v x y z m e').ownsRow base e size r k xs:=by
 unfold rpFin0
 have hb0:n0<base:=by omega
 exact owns_set (owns_set (owns_set (owns_set (owns_set (owns_set (owns_set h _ _ hb0) _ _ hb0) _ _ hb0) _ _ hb0) _ _ hb0) _ _ hb0) _ _ hb
theorem owns_drew {W:World} {base:Nat} {e:TypeId} {size k:Nat} {r:Value} {xs:List Value} (h:W.ownsRow base e size r k xs):W.drew.ownsRow base e size r k xs:=h.kept (grownBy_drew W) (by cases hv:r.ownBlock<;>simp)
theorem read_endD {n:Nat} {w W:World} {M:Nat→Prop} {D:Nat} {tmps:Array Value} {r:Rp} {ms:Value} {ok:Bool} (h2:tmps[2]? = some (.pointer (some ⟨w.heap.size,0,none⟩))) (h3:tmps[3]? = some (.pointer (some ⟨w.heap.size+1,0,none⟩)))
  (h6:W.heap[w.heap.size]? = some (.cells (rpC r ms) 28 (0,0))) (h7:Boxed W (w.heap.size+1) 4 (.bool ok)) (hs:w.heap.size≤W.heap.size) (h8:Below w.heap.size w W) (hD:w.heap.size≤D) (hK:W.heap[D]? = some (.deferred (some []))) (hr:rpIn r) (hm:Rep (W.putObj D (.deferred none)) M (mts r.ms) ms) :
  bodyPostM Fence.wide n Tryz.prog Tryz.f43 (fun e w'=>∃ u,e=.returned u∧DVR w' M (retRb r ok) u∧Below w.heap.size w w') Exit.ret { tmps:=tmps,defers:=[{ target:=Target.collected D,args:=#[] }] } W:=by
 refine ⟨by simp,.inl ⟨_,_,rfl,run_takeDeferred hK,?_⟩⟩
 have ne:∀ {b:Nat} {cs:Array Value} {T:TypeId} {fr:Nat × Nat},W.heap[b]? = some (.cells cs T fr)→(W.putObj D (.deferred none)).heap[b]? = some (.cells cs T fr):=fun h=>(World.putObj_heap_other fun e=>by subst e;rw [hK] at h;cases h).trans h
 obtain ⟨q1,q2,q3,q4,q5⟩:=hr
 refine ⟨_,results_read tmps h2 h3 (ne h6) (ne h7),_,rfl,?_,?_⟩
 ·exact ⟨_,rfl,⟨_,rfl,.v _ rfl q1,.v _ rfl q2,.v _ rfl q3,.v _ rfl q4,.v _ rfl q5,hm,trivial⟩,.v _ rfl trivial,trivial⟩
 ·exact h8.grown (grownBy_putObj' W D _) hs (fun k e=>by cases e;omega)
set_option maxRecDepth 100000 in
set_option maxHeartbeats 4000000 in
theorem read_mt2 {n:Nat} (t:List Str) (hl:t.length≤1000000) (hs:∀ x∈t,x.length≤1000000) (w:World) (hg:Gd w) (M:Nat→Prop) (hM:∀ b,M b→b<w.heap.size) (b o c:Nat) (hc:t.length+1≤c) (hb:b<w.heap.size) (h0:w.cell? ⟨b,o,none⟩=some (bstr wMeet)) (hc1:¬ c=1) (hv2:Rep w M (strs t) (.slice (some ⟨b,o+1,none⟩) t.length (c-1))) (hn:6≤n) :
  CallsIn Fence.wide n Tryz.prog 43 #[.slice (some ⟨b,o,none⟩) (t.length+1) c] w fun e w'=>∃ u,e=.returned u∧DVR w' M (retRb ⟨0,0,0,0,0,(rdMq t).1⟩ (rdMq t).2) u∧Below w.heap.size w w':=by
 have hn1:1≤n:=by omega
 have hn2:1≤n-1:=by omega
 have hn3:1≤n-1-1:=by omega
 have hf1:Fence.wide.fn 45:=trivial
 have hf2:Fence.wide.fn 83:=trivial
 have hf3:Fence.wide.fn 132:=trivial
 have k1:(wMeet == [100,111,110,101])=false:=by decide
 have k2:(wMeet == [101,114,114,111,114])=false:=by decide
 have k3:(wMeet == [108,101,97,100,101,114])=false:=by decide
 have k4:(wMeet == [112,97,105,114])=false:=by decide
 have k5:(wMeet == [109,101,101,116,105,110,103,115])=true:=by decide
 refine callsIn_of_wp_marks Tryz.func43 rfl trivial ?_ rfl
 simp only [Tryz.ntmps43,List.size_toArray,List.length_cons,List.length_nil,Nat.reduceAdd,Nat.reduceSub,Array.replicate_succ,Array.replicate_zero,List.push_toArray,List.append_toArray,List.nil_append,List.cons_append]
 gi_wp2_with (gi_at_call 83;(with_reducible refine CallsIn.mono (chunk_in _ _ _ _) ?_);rintro e w1 ⟨rfl,rfl⟩)
 obtain ⟨W0,hW0⟩:∃ W0,W0=(((w.alloc (.cells #[.int .i64 0,.int .i64 0,.int .i64 0,.int .i64 0,.int .i64 0,.slice none 0 0] 28)).alloc (.cells #[.bool false] 4)).alloc (.cells #[.slice (some ⟨b,o+1,none⟩) t.length (c-1)] 63)).alloc (.cells #[.int .i64 3] 3):=⟨_,rfl⟩
 have hB0:Below w.heap.size w W0:=by rw [hW0];exact ((((Below.refl _ w).alloc (Nat.le_refl _) _).alloc (by simp) _).alloc (by simp<;>omega) _).alloc (by simp<;>omega) _
 have hs0:W0.heap.size=w.heap.size+4:=by rw [hW0];simp
 have j0:W0.heap[w.heap.size]? = some (.cells #[.int .i64 0,.int .i64 0,.int .i64 0,.int .i64 0,.int .i64 0,.slice none 0 0] 28 (0,0)):=by
  rw [hW0,Below.heap_alloc _ _ _ (by simp<;>omega),Below.heap_alloc _ _ _ (by simp<;>omega),Below.heap_alloc _ _ _ (by simp)]
  exact World.alloc_heap_new w _
 have j1:Boxed W0 (w.heap.size+1) 4 (.bool false):=by
  unfold Boxed
  rw [hW0,Below.heap_alloc _ _ _ (by simp<;>omega),Below.heap_alloc _ _ _ (by simp)]
  have:=World.alloc_heap_new (w.alloc (.cells #[.int .i64 0,.int .i64 0,.int .i64 0,.int .i64 0,.int .i64 0,.slice none 0 0] 28)) (.cells #[.bool false] 4)
  rwa [World.size_alloc] at this
 have j2:Boxed W0 (w.heap.size+2) 63 (.slice (some ⟨b,o+1,none⟩) t.length (c-1)):=by
  unfold Boxed
  rw [hW0,Below.heap_alloc _ _ _ (by simp)]
  have:=World.alloc_heap_new ((w.alloc (.cells #[.int .i64 0,.int .i64 0,.int .i64 0,.int .i64 0,.int .i64 0,.slice none 0 0] 28)).alloc (.cells #[.bool false] 4)) (.cells #[.slice (some ⟨b,o+1,none⟩) t.length (c-1)] 63)
  rwa [World.size_alloc,World.size_alloc] at this
 have j3:Boxed W0 (w.heap.size+3) 3 (.int .i64 3):=by
  rw [hW0]
  have:=World.alloc_heap_new (((w.alloc (.cells #[.int .i64 0,.int .i64 0,.int .i64 0,.int .i64 0,.int .i64 0,.slice none 0 0] 28)).alloc (.cells #[.bool false] 4)).alloc (.cells #[.slice (some ⟨b,o+1,none⟩) t.length (c-1)] 63)) (.cells #[.int .i64 3] 3)
  rwa [World.size_alloc,World.size_alloc,World.size_alloc] at this
 rw [← hW0]
 clear hW0
 refine wpIn_rangeEnds (α:=Nat) (encs:=fun k=>#[chk3 b (o+1) t.length k]) (bs:=fun k=>k=w.heap.size+2∨k=w.heap.size+3) (xs:=List.range ((t.length+2) / 3)) hn1 (gf:=132) (lb:=#[.pointer (some ⟨w.heap.size+2,0,none⟩),.pointer (some ⟨w.heap.size+3,0,none⟩)]) rfl (fun _ _=>Tryz.call132 _ _)
  (chunk_ends _ b (o+1) t.length _ (w.heap.size+2) (w.heap.size+3) (n-1) W0 (fun _=>rfl) j2 j3 (by omega) hl hn2) (fun b hb=>by rcases hb with rfl|rfl<;>omega) (fun _=>rfl) (RdI w t) (RdX w t)
  (fun pre A B row hi hg hr=>by
   rw [hs0] at hr
   obtain ⟨ms,e1,e2,e3,e4,e5⟩:=hi
   exact ⟨ms,e1,e2,e3,e4,rdS_keep e5 hg hr⟩) (fun A B row hi hg hr=>by
   rw [hs0] at hr
   exact ⟨hi.1,rdS_keep hi.2 hg fun r e=>.inr (hr r e)⟩)
  ⟨[],rfl,Nat.zero_le _,rfl,rfl,⟨_,j0,rfl,.inl ⟨rfl,rfl⟩⟩,by simp,j1,by omega,hB0⟩
  (fun x=>{ tmps:=#[.slice (some ⟨b,o,none⟩) (t.length+1) c,undef,.pointer (some ⟨w.heap.size,0,none⟩),.pointer (some ⟨w.heap.size+1,0,none⟩),undef,chk3 b (o+1) t.length x,undef,.slice (some ⟨b,o,none⟩) (t.length+1) c,.pointer (some ⟨b,o,none⟩),bstr wMeet,.bool false,.bool false,undef,.bool false,.bool false,undef,undef,undef,undef,undef,undef,undef,.bool false,.bool false,undef,undef,undef,undef,undef,undef,undef,undef,.bool false,.bool false,undef,undef,undef,undef,undef,undef,undef,undef,undef,undef,.bool true,.bool true,.slice (some ⟨b,o,none⟩) (t.length+1) c,.slice (some ⟨b,o+1,none⟩) t.length (c-1),.func (.func 132) #[] #[.pointer (some ⟨w.heap.size+2,0,none⟩),.pointer (some ⟨w.heap.size+3,0,none⟩)],chk3 b (o+1) t.length x,undef,undef,undef,undef,undef,undef,undef,undef,undef,undef,undef,undef,undef,undef,undef,undef,undef,undef,undef],defers:=[] }) ?_ ?_ ?_ ?_
 ·rintro lp x W K hK
  rw [zip1]
  show Code.wpIn _ _ _ _ _ { tmps:=#[.slice (some ⟨b,o,none⟩) (t.length+1) c,undef,.pointer (some ⟨w.heap.size,0,none⟩),.pointer (some ⟨w.heap.size+1,0,none⟩),undef,undef,undef,.slice (some ⟨b,o,none⟩) (t.length+1) c,.pointer (some ⟨b,o,none⟩),bstr wMeet,.bool false,.bool false,undef,.bool false,.bool false,undef,undef,undef,undef,undef,undef,undef,.bool false,.bool false,undef,undef,undef,undef,undef,undef,undef,undef,.bool false,.bool false,undef,undef,undef,undef,undef,undef,undef,undef,undef,undef,.bool true,.bool true,.slice (some ⟨b,o,none⟩) (t.length+1) c,.slice (some ⟨b,o+1,none⟩) t.length (c-1),.func (.func 132) #[] #[.pointer (some ⟨w.heap.size+2,0,none⟩),.pointer (some ⟨w.heap.size+3,0,none⟩)],chk3 b (o+1) t.length x,undef,undef,undef,undef,undef,undef,undef,undef,undef,undef,undef,undef,undef,undef,undef,undef,undef,undef,undef],defers:=[] } W
  gi_wp2_with (rw [Oper.semAt_eq _ _ _ (fun c h=>by cases h)];go_simp;try go_bits)
  exact hK
 ·rintro lp pre x post W hpost hI
  obtain ⟨ms,e1,e2,e3,e4,hS⟩:=hI
  obtain ⟨⟨v,h4,h5⟩,h3,h7,h8,h9⟩:=id hS
  replace h4:W.heap[w.heap.size]? = some (.cells #[.int .i64 0,.int .i64 0,.int .i64 0,.int .i64 0,.int .i64 0,v] 28 (0,0)):=h4
  obtain ⟨rfl,hkN⟩:=range_mid hpost e1
  have hk3:3*ms.length<t.length:=by omega
  have hgW:Gd W:=gd_below h9 hg
  obtain ⟨hy,hno⟩:=rdMq_step hk3
  have hrep:=rep_chunk (M:=fun _=>False) (hv2.mono (Holds.of_below h9) (fun _ _ h=>h.elim)) hk3 (by omega)
  have hcs:∀ x∈(t.drop (3*ms.length)).take 3,x.length≤1000000:=fun x hx=>hs x (List.mem_of_mem_drop (List.mem_of_mem_take hx))
  have cT:=mt_scan (n:=n-1-1-1) (lp:=lp) hgW (by rw [List.length_take];omega) hcs hrep
  have hpin:=mtX_in ((t.drop (3*ms.length)).take 3)
  clear hcs hrep
  generalize mtX ((t.drop (3*ms.length)).take 3)=p at *
  obtain ⟨⟨pn,pd,pi,pj⟩,pok⟩:=p
  simp only [mtC] at cT hy hno hpin
  obtain ⟨⟨a0,a1,a2,a3,a4,a5⟩,fz⟩:=cells6 h4
  have f0:=fz 0
  have f1:=fz 1
  have f2:=fz 2
  have f3:=fz 3
  have f4:=fz 4
  have f5:=fz 5
  have b0:=h7.cell
  have b1:=h7.frozen
  have kp:∀ {W':World},Below W.heap.size W W'→∀ b o,b≤w.heap.size+1→W'.cell? ⟨b,o,none⟩=W.cell? ⟨b,o,none⟩∧W'.frozen? ⟨b,o,none⟩=W.frozen? ⟨b,o,none⟩:=fun hb b o h=>⟨World.cell?_of_block (hb.block b (by omega)),World.frozen?_of_block (hb.block b (by omega))⟩
  obtain ⟨va,vk,vc,rfl⟩:∃ a k c,v=.slice a k c:=by
   rcases h5.2 with ⟨rfl,_⟩|⟨g,cap,cur,rfl,_⟩
   ·exact ⟨_,_,_,rfl⟩
   ·exact ⟨_,_,_,rfl⟩
  cases pok
  ·have hq:=hno rfl
   clear hy hno
   gi_wp2_with (first
    | (gi_at_call 45;(with_reducible refine CallsIn.mono cT ?_);rintro e W5 ⟨rfl,hm5,B5⟩;have g0:=(kp B5 w.heap.size 0 (by omega)).1.trans a0;have g1:=(kp B5 w.heap.size 1 (by omega)).1.trans a1;have g2:=(kp B5 w.heap.size 2 (by omega)).1.trans a2;have g3:=(kp B5 w.heap.size 3 (by omega)).1.trans a3;have g4:=(kp B5 w.heap.size 4 (by omega)).1.trans a4;have g5:=(kp B5 w.heap.size 5 (by omega)).1.trans a5;have z0:=(kp B5 w.heap.size 0 (by omega)).2.trans f0;have z1:=(kp B5 w.heap.size 1 (by omega)).2.trans f1;have z2:=(kp B5 w.heap.size 2 (by omega)).2.trans f2;have z3:=(kp B5 w.heap.size 3 (by omega)).2.trans f3;have z4:=(kp B5 w.heap.size 4 (by omega)).2.trans f4;have z5:=(kp B5 w.heap.size 5 (by omega)).2.trans f5;have y0:=(kp B5 (w.heap.size+1) 0 (by omega)).1.trans b0;have y1:=(kp B5 (w.heap.size+1) 0 (by omega)).2.trans b1)
    | (rw [Oper.semAt_eq _ _ _ (fun c h=>by cases h)];go_simp;try go_bits))
   have em:(rdMq t).1=ms:=by rw [e3,hq];simp
   have hR5:=(B5.block w.heap.size (by omega)).trans h4
   have hK5:Boxed W5 (w.heap.size+1) 4 (.bool false):=(B5.block _ (by omega)).trans h7
   obtain ⟨x1,x2,x3,x4⟩:=rpFin0_ok (w:=w) (.int .i64 0) (.int .i64 0) (.int .i64 0) (.int .i64 0) (.int .i64 0) (.slice va vk vc) (.bool false) rfl hR5 hK5 (Nat.le_refl _) (h9.trans (B5.mono h9.size))
   refine ⟨(ko_below B5).trans x4,by rw [e4,hq],?_⟩
   rw [em]
   exact ⟨⟨_,x1,owns_fin0 _ _ _ _ _ _ _ (owns_below h5 B5) (by omega)⟩,h3,x2,Nat.le_trans h8 (Nat.le_trans B5.size x4.size),x3⟩
  ·obtain ⟨hk4,hq⟩:=hy rfl
   clear hy hno
   obtain ⟨te,he,hsz,_,_,ti,tz,hi0,hsz0,hz0,hzs,_,hby⟩:=(ty_ok 26 (.sl 4 true [.v (.int .i64 0),.v (.int .i64 0),.v (.int .i64 0),.v (.int .i64 0)]) rfl).2.2.2
   have hee:te=31:=by
    have:=he.symm.trans Tryz.underlying26
    injection this with this;injection this
   subst hee
   have o3:∀ u∈([.int .i64 pn,.int .i64 pd,.int .i64 pi,.int .i64 pj]:List Value),u.oneCell'=true:=by simp [Value.oneCell']
   have q1:ms.length+1≤maxLen:=by unfold maxLen;omega
   have q2:(ms.length+1)*ti.bytes≤140737488355328:=by
    have:(ms.length+1)*ti.bytes≤1000001*65536:=Nat.mul_le_mul (by omega) hby
    omega
   gi_wp2_with (first
    | (gi_at_call 45;(with_reducible refine CallsIn.mono cT ?_);rintro e W5 ⟨rfl,hm5,B5⟩;have g5:=(kp B5 w.heap.size 5 (by omega)).1.trans a5;obtain ⟨u0,u1,u2,u3⟩:=cells4 hm5;have B15:=B5.alloc B5.size (.cells #[.int .i64 pn,.int .i64 pd,.int .i64 pi,.int .i64 pj] 31);have sB:=B15.size;have hrow:=owns_below h5 B15;have cM:=cM4 W5 (.int .i64 pn) (.int .i64 pd) (.int .i64 pi) (.int .i64 pj))
    | (gi_at_builtin;refine wpListIn_append_own _ rfl _ _ 26 rfl (w.heap.size+4) 31 ti tz 4 ti.bytes Tryz.underlying26 hi0 hz0 hsz0 rfl hzs (by decide) _ _ _ rfl hrow ⟨W5.heap.size,0,none⟩ 1 1 [.int .i64 pn,.int .i64 pd,.int .i64 pi,.int .i64 pj] rfl rfl cM o3 q1 q2 (Nat.le_trans h8 sB) ?_;intro v' W6 hown' hg3 hnil3;obtain ⟨g',cap',hv'⟩:=ownsRow_succ hown';subst hv';have c3:=(World.cell?_of_block (hg3.block w.heap.size (by omega) (own_ne h5 (by omega)))).trans ((kp B15 w.heap.size 5 (by omega)).1.trans a5);have c4:=(World.frozen?_of_block (hg3.block w.heap.size (by omega) (own_ne h5 (by omega)))).trans ((kp B15 w.heap.size 5 (by omega)).2.trans f5))
    | (rw [Oper.semAt_eq _ _ _ (fun c h=>by cases h)];go_simp;try go_bits))
   have hR6:=(hg3.block w.heap.size (by omega) (own_ne h5 (by omega))).trans ((B15.block w.heap.size (by omega)).trans h4)
   have h76:Boxed W6 (w.heap.size+1) 4 (.bool false):=(hg3.block (w.heap.size+1) (by omega) (own_ne h5 (by omega))).trans ((B15.block _ (by omega)).trans h7)
   refine ⟨((ko_below B15).trans (KeepsOthers.of_grownBy hg3 fun j o ej hj=>(own_cells hrow ej hj).1)).trans (KeepsOthers.setCell _ _ _),?_,ms++[⟨pn,pd,pi,pj⟩],?_,?_,?_,?_,⟨.slice (some ⟨g',0,none⟩) (ms.length+1) cap',?_,?_⟩,?_,?_,?_,?_⟩
   ·rintro b (rfl|rfl)
    ·exact (setCell_other (by show _≠w.heap.size;omega)).trans ((hg3.block _ (by omega) (own_ne h5 (by omega))).trans (B15.block _ (by omega)))
    ·exact (setCell_other (by show _≠w.heap.size;omega)).trans ((hg3.block _ (by omega) (own_ne h5 (by omega))).trans (B15.block _ (by omega)))
   ·rw [List.length_append,e1];exact (List.range_succ).symm
   ·rw [List.length_append];exact hk4
   ·rw [e3,hq,List.length_append];simp
   ·rw [e4,hq,List.length_append];rfl
   ·exact set6 5 _ hR6
   ·refine owns_set ?_ _ _ (by show w.heap.size<_;omega)
    simpa [mtV] using hown'
   ·intro q hq
    rcases List.mem_append.1 hq with hq|hq
    ·exact h3 q hq
    ·obtain rfl:=List.mem_singleton.1 hq;exact hpin
   ·exact setCell_o (by omega) h76
   ·exact Nat.le_trans h8 (Nat.le_trans sB (Nat.le_trans hg3.size (KeepsOthers.setCell _ _ _).size))
   ·exact (below_row (h9.trans (B15.mono h9.size)) (Nat.le_trans h9.size sB) hg3 fun r e=>Nat.le_trans (by omega) (own_base h5 e)).setCell (Nat.le_refl _) _
 ·intro D W hD hI hK
  rw [hs0] at hD
  obtain ⟨ms,e1,e2,e3,e4,hS⟩:=hI
  obtain ⟨⟨v,h4,h5⟩,h3,h7,h8,h9⟩:=id hS
  replace h4:W.heap[w.heap.size]? = some (.cells #[.int .i64 0,.int .i64 0,.int .i64 0,.int .i64 0,.int .i64 0,v] 28 (0,0)):=h4
  have hlen:=congrArg List.length e1
  rw [List.length_range,List.length_range] at hlen
  have hend:t.drop (3*ms.length)=[]:=List.drop_eq_nil_of_le (by omega)
  rw [hend] at e3 e4
  replace e3:(rdMq t).1=ms:=e3.trans (List.append_nil _)
  replace e4:(rdMq t).2=true:=e4
  clear e1 e2 hlen hend hS
  have b0:=h7.cell
  have b1:=h7.frozen
  obtain ⟨va,vk,vc,rfl⟩:∃ a k c,v=.slice a k c:=by
   rcases h5.2 with ⟨rfl,_⟩|⟨g,cap,cur,rfl,_⟩
   ·exact ⟨_,_,_,rfl⟩
   ·exact ⟨_,_,_,rfl⟩
  gi_wp2
  obtain ⟨W6,hW6⟩:∃ W6,W6=W.setCell ⟨w.heap.size+1,0,none⟩ (.bool true):=⟨_,rfl⟩
  have g6:W6.heap[w.heap.size]? = some (.cells #[.int .i64 0,.int .i64 0,.int .i64 0,.int .i64 0,.int .i64 0,.slice va vk vc] 28 (0,0)):=by rw [hW6];exact setCell_o (by omega) h4
  have g7:Boxed W6 (w.heap.size+1) 4 (.bool true):=by rw [hW6];exact h7.set _
  have g8:Below w.heap.size w W6:=by rw [hW6];exact h9.setCell (by show w.heap.size≤w.heap.size+1;omega) _
  have g9:W6.ownsRow (w.heap.size+4) 31 4 (.slice va vk vc) ms.length (ms.flatMap mtV):=by rw [hW6];exact owns_set h5 _ _ (by show w.heap.size+1<_;omega)
  have gD:W6.heap[D]? = some (.deferred (some [])):=by rw [hW6];exact setCell_o (by omega) hK
  rw [← hW6]
  clear hW6 b0 b1
  obtain ⟨⟨a0,a1,a2,a3,a4,a5⟩,fz⟩:=cells6 g6
  have f0:=fz 0
  have f1:=fz 1
  have f2:=fz 2
  have f3:=fz 3
  have f4:=fz 4
  have f5:=fz 5
  have e0:=g7.cell
  have e1:=g7.frozen
  gi_region
  gi_wp2
  obtain ⟨x1,x2,x3,x4⟩:=rpFin_ok (w:=w) (.int .i64 0) (.int .i64 0) (.int .i64 0) (.int .i64 0) (.int .i64 0) (.slice va vk vc) (.bool true) rfl g6 g7 (Nat.le_refl _) g8
  have xD:=(x4 D (by omega) (by omega)).trans gD
  have xr:(rpFin w.heap.size W6 (.int .i64 0) (.int .i64 0) (.int .i64 0) (.int .i64 0) (.int .i64 0) (.slice va vk vc) (.bool true)).ownsRow (w.heap.size+4) 31 4 (.slice va vk vc) ms.length (ms.flatMap mtV):=owns_drew (owns_fin0 _ _ _ _ _ _ _ g9 (by omega))
  rw [e3,e4]
  exact read_endD (r:=⟨0,0,0,0,0,ms⟩) rfl rfl x1 x2 x3.size x3 (by omega) xD ⟨in0,in0,in0,in0,in0⟩ (rep_ownMt (ownsRow_putObj xr _ xD rfl) h3 fun b hb=>by have:=hM b hb;omega)
 ·intro D W hD hX hK
  rw [hs0] at hD
  obtain ⟨e4,⟨v,h4,h5⟩,h3,h7,h8,h9⟩:=hX
  gi_wp2
  rw [e4]
  exact read_endD (r:=⟨0,0,0,0,0,(rdMq t).1⟩) rfl rfl h4 h7 h9.size h9 (by omega) hK ⟨in0,in0,in0,in0,in0⟩ (rep_ownMt (ownsRow_putObj h5 _ hK rfl) h3 fun b hb=>by have:=hM b hb;omega)
set_option maxRecDepth 100000 in
set_option maxHeartbeats 4000000 in
theorem read_mt1 {n:Nat} (t:List Str) (hl:t.length≤1000000) (hs:∀ x∈t,x.length≤1000000) (w:World) (hg:Gd w) (M:Nat→Prop) (hM:∀ b,M b→b<w.heap.size) (b o c:Nat) (hc:t.length+1≤c) (hb:b<w.heap.size) (h0:w.cell? ⟨b,o,none⟩=some (bstr wMeet)) (hc1:c=1) (hv2:Rep w M (strs t) (.slice (some ⟨b,o,none⟩) t.length 0)) (hn:6≤n) :
  CallsIn Fence.wide n Tryz.prog 43 #[.slice (some ⟨b,o,none⟩) (t.length+1) 1] w fun e w'=>∃ u,e=.returned u∧DVR w' M (retRb ⟨0,0,0,0,0,(rdMq t).1⟩ (rdMq t).2) u∧Below w.heap.size w w':=by
 have hn1:1≤n:=by omega
 have hn2:1≤n-1:=by omega
 have hn3:1≤n-1-1:=by omega
 have hf1:Fence.wide.fn 45:=trivial
 have hf2:Fence.wide.fn 83:=trivial
 have hf3:Fence.wide.fn 132:=trivial
 have k1:(wMeet == [100,111,110,101])=false:=by decide
 have k2:(wMeet == [101,114,114,111,114])=false:=by decide
 have k3:(wMeet == [108,101,97,100,101,114])=false:=by decide
 have k4:(wMeet == [112,97,105,114])=false:=by decide
 have k5:(wMeet == [109,101,101,116,105,110,103,115])=true:=by decide
 refine callsIn_of_wp_marks Tryz.func43 rfl trivial ?_ rfl
 simp only [Tryz.ntmps43,List.size_toArray,List.length_cons,List.length_nil,Nat.reduceAdd,Nat.reduceSub,Array.replicate_succ,Array.replicate_zero,List.push_toArray,List.append_toArray,List.nil_append,List.cons_append]
 gi_wp2_with (gi_at_call 83;(with_reducible refine CallsIn.mono (chunk_in _ _ _ _) ?_);rintro e w1 ⟨rfl,rfl⟩)
 obtain ⟨W0,hW0⟩:∃ W0,W0=(((w.alloc (.cells #[.int .i64 0,.int .i64 0,.int .i64 0,.int .i64 0,.int .i64 0,.slice none 0 0] 28)).alloc (.cells #[.bool false] 4)).alloc (.cells #[.slice (some ⟨b,o,none⟩) t.length 0] 63)).alloc (.cells #[.int .i64 3] 3):=⟨_,rfl⟩
 have hB0:Below w.heap.size w W0:=by rw [hW0];exact ((((Below.refl _ w).alloc (Nat.le_refl _) _).alloc (by simp) _).alloc (by simp<;>omega) _).alloc (by simp<;>omega) _
 have hs0:W0.heap.size=w.heap.size+4:=by rw [hW0];simp
 have j0:W0.heap[w.heap.size]? = some (.cells #[.int .i64 0,.int .i64 0,.int .i64 0,.int .i64 0,.int .i64 0,.slice none 0 0] 28 (0,0)):=by
  rw [hW0,Below.heap_alloc _ _ _ (by simp<;>omega),Below.heap_alloc _ _ _ (by simp<;>omega),Below.heap_alloc _ _ _ (by simp)]
  exact World.alloc_heap_new w _
 have j1:Boxed W0 (w.heap.size+1) 4 (.bool false):=by
  unfold Boxed
  rw [hW0,Below.heap_alloc _ _ _ (by simp<;>omega),Below.heap_alloc _ _ _ (by simp)]
  have:=World.alloc_heap_new (w.alloc (.cells #[.int .i64 0,.int .i64 0,.int .i64 0,.int .i64 0,.int .i64 0,.slice none 0 0] 28)) (.cells #[.bool false] 4)
  rwa [World.size_alloc] at this
 have j2:Boxed W0 (w.heap.size+2) 63 (.slice (some ⟨b,o,none⟩) t.length 0):=by
  unfold Boxed
  rw [hW0,Below.heap_alloc _ _ _ (by simp)]
  have:=World.alloc_heap_new ((w.alloc (.cells #[.int .i64 0,.int .i64 0,.int .i64 0,.int .i64 0,.int .i64 0,.slice none 0 0] 28)).alloc (.cells #[.bool false] 4)) (.cells #[.slice (some ⟨b,o,none⟩) t.length 0] 63)
  rwa [World.size_alloc,World.size_alloc] at this
 have j3:Boxed W0 (w.heap.size+3) 3 (.int .i64 3):=by
  rw [hW0]
  have:=World.alloc_heap_new (((w.alloc (.cells #[.int .i64 0,.int .i64 0,.int .i64 0,.int .i64 0,.int .i64 0,.slice none 0 0] 28)).alloc (.cells #[.bool false] 4)).alloc (.cells #[.slice (some ⟨b,o,none⟩) t.length 0] 63)) (.cells #[.int .i64 3] 3)
  rwa [World.size_alloc,World.size_alloc,World.size_alloc] at this
 rw [← hW0]
 clear hW0
 refine wpIn_rangeEnds (α:=Nat) (encs:=fun k=>#[chk3 b (o) t.length k]) (bs:=fun k=>k=w.heap.size+2∨k=w.heap.size+3) (xs:=List.range ((t.length+2) / 3)) hn1 (gf:=132) (lb:=#[.pointer (some ⟨w.heap.size+2,0,none⟩),.pointer (some ⟨w.heap.size+3,0,none⟩)]) rfl (fun _ _=>Tryz.call132 _ _)
  (chunk_ends _ b (o) t.length _ (w.heap.size+2) (w.heap.size+3) (n-1) W0 (fun _=>rfl) j2 j3 (by omega) hl hn2) (fun b hb=>by rcases hb with rfl|rfl<;>omega) (fun _=>rfl) (RdI w t) (RdX w t)
  (fun pre A B row hi hg hr=>by
   rw [hs0] at hr
   obtain ⟨ms,e1,e2,e3,e4,e5⟩:=hi
   exact ⟨ms,e1,e2,e3,e4,rdS_keep e5 hg hr⟩) (fun A B row hi hg hr=>by
   rw [hs0] at hr
   exact ⟨hi.1,rdS_keep hi.2 hg fun r e=>.inr (hr r e)⟩)
  ⟨[],rfl,Nat.zero_le _,rfl,rfl,⟨_,j0,rfl,.inl ⟨rfl,rfl⟩⟩,by simp,j1,by omega,hB0⟩
  (fun x=>{ tmps:=#[.slice (some ⟨b,o,none⟩) (t.length+1) 1,undef,.pointer (some ⟨w.heap.size,0,none⟩),.pointer (some ⟨w.heap.size+1,0,none⟩),undef,chk3 b (o) t.length x,undef,.slice (some ⟨b,o,none⟩) (t.length+1) 1,.pointer (some ⟨b,o,none⟩),bstr wMeet,.bool false,.bool false,undef,.bool false,.bool false,undef,undef,undef,undef,undef,undef,undef,.bool false,.bool false,undef,undef,undef,undef,undef,undef,undef,undef,.bool false,.bool false,undef,undef,undef,undef,undef,undef,undef,undef,undef,undef,.bool true,.bool true,.slice (some ⟨b,o,none⟩) (t.length+1) 1,.slice (some ⟨b,o,none⟩) t.length 0,.func (.func 132) #[] #[.pointer (some ⟨w.heap.size+2,0,none⟩),.pointer (some ⟨w.heap.size+3,0,none⟩)],chk3 b (o) t.length x,undef,undef,undef,undef,undef,undef,undef,undef,undef,undef,undef,undef,undef,undef,undef,undef,undef,undef,undef],defers:=[] }) ?_ ?_ ?_ ?_
 ·rintro lp x W K hK
  rw [zip1]
  show Code.wpIn _ _ _ _ _ { tmps:=#[.slice (some ⟨b,o,none⟩) (t.length+1) 1,undef,.pointer (some ⟨w.heap.size,0,none⟩),.pointer (some ⟨w.heap.size+1,0,none⟩),undef,undef,undef,.slice (some ⟨b,o,none⟩) (t.length+1) 1,.pointer (some ⟨b,o,none⟩),bstr wMeet,.bool false,.bool false,undef,.bool false,.bool false,undef,undef,undef,undef,undef,undef,undef,.bool false,.bool false,undef,undef,undef,undef,undef,undef,undef,undef,.bool false,.bool false,undef,undef,undef,undef,undef,undef,undef,undef,undef,undef,.bool true,.bool true,.slice (some ⟨b,o,none⟩) (t.length+1) 1,.slice (some ⟨b,o,none⟩) t.length 0,.func (.func 132) #[] #[.pointer (some ⟨w.heap.size+2,0,none⟩),.pointer (some ⟨w.heap.size+3,0,none⟩)],chk3 b (o) t.length x,undef,undef,undef,undef,undef,undef,undef,undef,undef,undef,undef,undef,undef,undef,undef,undef,undef,undef,undef],defers:=[] } W
  gi_wp2_with (rw [Oper.semAt_eq _ _ _ (fun c h=>by cases h)];go_simp;try go_bits)
  exact hK
 ·rintro lp pre x post W hpost hI
  obtain ⟨ms,e1,e2,e3,e4,hS⟩:=hI
  obtain ⟨⟨v,h4,h5⟩,h3,h7,h8,h9⟩:=id hS
  replace h4:W.heap[w.heap.size]? = some (.cells #[.int .i64 0,.int .i64 0,.int .i64 0,.int .i64 0,.int .i64 0,v] 28 (0,0)):=h4
  obtain ⟨rfl,hkN⟩:=range_mid hpost e1
  have hk3:3*ms.length<t.length:=by omega
  have hgW:Gd W:=gd_below h9 hg
  obtain ⟨hy,hno⟩:=rdMq_step hk3
  have hrep:=rep_chunk (M:=fun _=>False) (hv2.mono (Holds.of_below h9) (fun _ _ h=>h.elim)) hk3 (by omega)
  have hcs:∀ x∈(t.drop (3*ms.length)).take 3,x.length≤1000000:=fun x hx=>hs x (List.mem_of_mem_drop (List.mem_of_mem_take hx))
  have cT:=mt_scan (n:=n-1-1-1) (lp:=lp) hgW (by rw [List.length_take];omega) hcs hrep
  have hpin:=mtX_in ((t.drop (3*ms.length)).take 3)
  clear hcs hrep
  generalize mtX ((t.drop (3*ms.length)).take 3)=p at *
  obtain ⟨⟨pn,pd,pi,pj⟩,pok⟩:=p
  simp only [mtC] at cT hy hno hpin
  obtain ⟨⟨a0,a1,a2,a3,a4,a5⟩,fz⟩:=cells6 h4
  have f0:=fz 0
  have f1:=fz 1
  have f2:=fz 2
  have f3:=fz 3
  have f4:=fz 4
  have f5:=fz 5
  have b0:=h7.cell
  have b1:=h7.frozen
  have kp:∀ {W':World},Below W.heap.size W W'→∀ b o,b≤w.heap.size+1→W'.cell? ⟨b,o,none⟩=W.cell? ⟨b,o,none⟩∧W'.frozen? ⟨b,o,none⟩=W.frozen? ⟨b,o,none⟩:=fun hb b o h=>⟨World.cell?_of_block (hb.block b (by omega)),World.frozen?_of_block (hb.block b (by omega))⟩
  obtain ⟨va,vk,vc,rfl⟩:∃ a k c,v=.slice a k c:=by
   rcases h5.2 with ⟨rfl,_⟩|⟨g,cap,cur,rfl,_⟩
   ·exact ⟨_,_,_,rfl⟩
   ·exact ⟨_,_,_,rfl⟩
  cases pok
  ·have hq:=hno rfl
   clear hy hno
   gi_wp2_with (first
    | (gi_at_call 45;(with_reducible refine CallsIn.mono cT ?_);rintro e W5 ⟨rfl,hm5,B5⟩;have g0:=(kp B5 w.heap.size 0 (by omega)).1.trans a0;have g1:=(kp B5 w.heap.size 1 (by omega)).1.trans a1;have g2:=(kp B5 w.heap.size 2 (by omega)).1.trans a2;have g3:=(kp B5 w.heap.size 3 (by omega)).1.trans a3;have g4:=(kp B5 w.heap.size 4 (by omega)).1.trans a4;have g5:=(kp B5 w.heap.size 5 (by omega)).1.trans a5;have z0:=(kp B5 w.heap.size 0 (by omega)).2.trans f0;have z1:=(kp B5 w.heap.size 1 (by omega)).2.trans f1;have z2:=(kp B5 w.heap.size 2 (by omega)).2.trans f2;have z3:=(kp B5 w.heap.size 3 (by omega)).2.trans f3;have z4:=(kp B5 w.heap.size 4 (by omega)).2.trans f4;have z5:=(kp B5 w.heap.size 5 (by omega)).2.trans f5;have y0:=(kp B5 (w.heap.size+1) 0 (by omega)).1.trans b0;have y1:=(kp B5 (w.heap.size+1) 0 (by omega)).2.trans b1)
    | (rw [Oper.semAt_eq _ _ _ (fun c h=>by cases h)];go_simp;try go_bits))
   have em:(rdMq t).1=ms:=by rw [e3,hq];simp
   have hR5:=(B5.block w.heap.size (by omega)).trans h4
   have hK5:Boxed W5 (w.heap.size+1) 4 (.bool false):=(B5.block _ (by omega)).trans h7
   obtain ⟨x1,x2,x3,x4⟩:=rpFin0_ok (w:=w) (.int .i64 0) (.int .i64 0) (.int .i64 0) (.int .i64 0) (.int .i64 0) (.slice va vk vc) (.bool false) rfl hR5 hK5 (Nat.le_refl _) (h9.trans (B5.mono h9.size))
   refine ⟨(ko_below B5).trans x4,by rw [e4,hq],?_⟩
   rw [em]
   exact ⟨⟨_,x1,owns_fin0 _ _ _ _ _ _ _ (owns_below h5 B5) (by omega)⟩,h3,x2,Nat.le_trans h8 (Nat.le_trans B5.size x4.size),x3⟩
  ·obtain ⟨hk4,hq⟩:=hy rfl
   clear hy hno
   obtain ⟨te,he,hsz,_,_,ti,tz,hi0,hsz0,hz0,hzs,_,hby⟩:=(ty_ok 26 (.sl 4 true [.v (.int .i64 0),.v (.int .i64 0),.v (.int .i64 0),.v (.int .i64 0)]) rfl).2.2.2
   have hee:te=31:=by
    have:=he.symm.trans Tryz.underlying26
    injection this with this;injection this
   subst hee
   have o3:∀ u∈([.int .i64 pn,.int .i64 pd,.int .i64 pi,.int .i64 pj]:List Value),u.oneCell'=true:=by simp [Value.oneCell']
   have q1:ms.length+1≤maxLen:=by unfold maxLen;omega
   have q2:(ms.length+1)*ti.bytes≤140737488355328:=by
    have:(ms.length+1)*ti.bytes≤1000001*65536:=Nat.mul_le_mul (by omega) hby
    omega
   gi_wp2_with (first
    | (gi_at_call 45;(with_reducible refine CallsIn.mono cT ?_);rintro e W5 ⟨rfl,hm5,B5⟩;have g5:=(kp B5 w.heap.size 5 (by omega)).1.trans a5;obtain ⟨u0,u1,u2,u3⟩:=cells4 hm5;have B15:=B5.alloc B5.size (.cells #[.int .i64 pn,.int .i64 pd,.int .i64 pi,.int .i64 pj] 31);have sB:=B15.size;have hrow:=owns_below h5 B15;have cM:=cM4 W5 (.int .i64 pn) (.int .i64 pd) (.int .i64 pi) (.int .i64 pj))
    | (gi_at_builtin;refine wpListIn_append_own _ rfl _ _ 26 rfl (w.heap.size+4) 31 ti tz 4 ti.bytes Tryz.underlying26 hi0 hz0 hsz0 rfl hzs (by decide) _ _ _ rfl hrow ⟨W5.heap.size,0,none⟩ 1 1 [.int .i64 pn,.int .i64 pd,.int .i64 pi,.int .i64 pj] rfl rfl cM o3 q1 q2 (Nat.le_trans h8 sB) ?_;intro v' W6 hown' hg3 hnil3;obtain ⟨g',cap',hv'⟩:=ownsRow_succ hown';subst hv';have c3:=(World.cell?_of_block (hg3.block w.heap.size (by omega) (own_ne h5 (by omega)))).trans ((kp B15 w.heap.size 5 (by omega)).1.trans a5);have c4:=(World.frozen?_of_block (hg3.block w.heap.size (by omega) (own_ne h5 (by omega)))).trans ((kp B15 w.heap.size 5 (by omega)).2.trans f5))
    | (rw [Oper.semAt_eq _ _ _ (fun c h=>by cases h)];go_simp;try go_bits))
   have hR6:=(hg3.block w.heap.size (by omega) (own_ne h5 (by omega))).trans ((B15.block w.heap.size (by omega)).trans h4)
   have h76:Boxed W6 (w.heap.size+1) 4 (.bool false):=(hg3.block (w.heap.size+1) (by omega) (own_ne h5 (by omega))).trans ((B15.block _ (by omega)).trans h7)
   refine ⟨((ko_below B15).trans (KeepsOthers.of_grownBy hg3 fun j o ej hj=>(own_cells hrow ej hj).1)).trans (KeepsOthers.setCell _ _ _),?_,ms++[⟨pn,pd,pi,pj⟩],?_,?_,?_,?_,⟨.slice (some ⟨g',0,none⟩) (ms.length+1) cap',?_,?_⟩,?_,?_,?_,?_⟩
   ·rintro b (rfl|rfl)
    ·exact (setCell_other (by show _≠w.heap.size;omega)).trans ((hg3.block _ (by omega) (own_ne h5 (by omega))).trans (B15.block _ (by omega)))
    ·exact (setCell_other (by show _≠w.heap.size;omega)).trans ((hg3.block _ (by omega) (own_ne h5 (by omega))).trans (B15.block _ (by omega)))
   ·rw [List.length_append,e1];exact (List.range_succ).symm
   ·rw [List.length_append];exact hk4
   ·rw [e3,hq,List.length_append];simp
   ·rw [e4,hq,List.length_append];rfl
   ·exact set6 5 _ hR6
   ·refine owns_set ?_ _ _ (by show w.heap.size<_;omega)
    simpa [mtV] using hown'
   ·intro q hq
    rcases List.mem_append.1 hq with hq|hq
    ·exact h3 q hq
    ·obtain rfl:=List.mem_singleton.1 hq;exact hpin
   ·exact setCell_o (by omega) h76
   ·exact Nat.le_trans h8 (Nat.le_trans sB (Nat.le_trans hg3.size (KeepsOthers.setCell _ _ _).size))
   ·exact (below_row (h9.trans (B15.mono h9.size)) (Nat.le_trans h9.size sB) hg3 fun r e=>Nat.le_trans (by omega) (own_base h5 e)).setCell (Nat.le_refl _) _
 ·intro D W hD hI hK
  rw [hs0] at hD
  obtain ⟨ms,e1,e2,e3,e4,hS⟩:=hI
  obtain ⟨⟨v,h4,h5⟩,h3,h7,h8,h9⟩:=id hS
  replace h4:W.heap[w.heap.size]? = some (.cells #[.int .i64 0,.int .i64 0,.int .i64 0,.int .i64 0,.int .i64 0,v] 28 (0,0)):=h4
  have hlen:=congrArg List.length e1
  rw [List.length_range,List.length_range] at hlen
  have hend:t.drop (3*ms.length)=[]:=List.drop_eq_nil_of_le (by omega)
  rw [hend] at e3 e4
  replace e3:(rdMq t).1=ms:=e3.trans (List.append_nil _)
  replace e4:(rdMq t).2=true:=e4
  clear e1 e2 hlen hend hS
  have b0:=h7.cell
  have b1:=h7.frozen
  obtain ⟨va,vk,vc,rfl⟩:∃ a k c,v=.slice a k c:=by
   rcases h5.2 with ⟨rfl,_⟩|⟨g,cap,cur,rfl,_⟩
   ·exact ⟨_,_,_,rfl⟩
   ·exact ⟨_,_,_,rfl⟩
  gi_wp2
  obtain ⟨W6,hW6⟩:∃ W6,W6=W.setCell ⟨w.heap.size+1,0,none⟩ (.bool true):=⟨_,rfl⟩
  have g6:W6.heap[w.heap.size]? = some (.cells #[.int .i64 0,.int .i64 0,.int .i64 0,.int .i64 0,.int .i64 0,.slice va vk vc] 28 (0,0)):=by rw [hW6];exact setCell_o (by omega) h4
  have g7:Boxed W6 (w.heap.size+1) 4 (.bool true):=by rw [hW6];exact h7.set _
  have g8:Below w.heap.size w W6:=by rw [hW6];exact h9.setCell (by show w.heap.size≤w.heap.size+1;omega) _
  have g9:W6.ownsRow (w.heap.size+4) 31 4 (.slice va vk vc) ms.length (ms.flatMap mtV):=by rw [hW6];exact owns_set h5 _ _ (by show w.heap.size+1<_;omega)
  have gD:W6.heap[D]? = some (.deferred (some [])):=by rw [hW6];exact setCell_o (by omega) hK
  rw [← hW6]
  clear hW6 b0 b1
  obtain ⟨⟨a0,a1,a2,a3,a4,a5⟩,fz⟩:=cells6 g6
  have f0:=fz 0
  have f1:=fz 1
  have f2:=fz 2
  have f3:=fz 3
  have f4:=fz 4
  have f5:=fz 5
  have e0:=g7.cell
  have e1:=g7.frozen
  gi_region
  gi_wp2
  obtain ⟨x1,x2,x3,x4⟩:=rpFin_ok (w:=w) (.int .i64 0) (.int .i64 0) (.int .i64 0) (.int .i64 0) (.int .i64 0) (.slice va vk vc) (.bool true) rfl g6 g7 (Nat.le_refl _) g8
  have xD:=(x4 D (by omega) (by omega)).trans gD
  have xr:(rpFin w.heap.size W6 (.int .i64 0) (.int .i64 0) (.int .i64 0) (.int .i64 0) (.int .i64 0) (.slice va vk vc) (.bool true)).ownsRow (w.heap.size+4) 31 4 (.slice va vk vc) ms.length (ms.flatMap mtV):=owns_drew (owns_fin0 _ _ _ _ _ _ _ g9 (by omega))
  rw [e3,e4]
  exact read_endD (r:=⟨0,0,0,0,0,ms⟩) rfl rfl x1 x2 x3.size x3 (by omega) xD ⟨in0,in0,in0,in0,in0⟩ (rep_ownMt (ownsRow_putObj xr _ xD rfl) h3 fun b hb=>by have:=hM b hb;omega)
 ·intro D W hD hX hK
  rw [hs0] at hD
  obtain ⟨e4,⟨v,h4,h5⟩,h3,h7,h8,h9⟩:=hX
  gi_wp2
  rw [e4]
  exact read_endD (r:=⟨0,0,0,0,0,(rdMq t).1⟩) rfl rfl h4 h7 h9.size h9 (by omega) hK ⟨in0,in0,in0,in0,in0⟩ (rep_ownMt (ownsRow_putObj h5 _ hK rfl) h3 fun b hb=>by have:=hM b hb;omega)
theorem tread_fn (w0:Str) (t:List Str) (hl:t.length≤1000000) (hs:∀ x∈t,x.length≤1000000):∃ X b,X.ms.length≤1000000∧(rdWP w0 t=if b=true then some X else none)∧FnOK Tryz.prog 43 [.one (strs (w0::t))] (retRb X b):=by
 have key:∀ (X:Rp) (b:Bool),(∀ (w:World) (M:Nat→Prop) (v:Value),Gd w→(∀ b,M b→b<w.heap.size)→Rep w M (strs (w0::t)) v→CallsIn Fence.wide 6 Tryz.prog 43 #[v] w fun e w'=>∃ u,e=.returned u∧DVR w' M (retRb X b) u∧Below w.heap.size w w')→FnOK Tryz.prog 43 [.one (strs (w0::t))] (retRb X b):=by
  intro X b h w M vs hM hvs
  refine .inl ⟨43,Tryz.call43 _ _,?_⟩
  match vs,hvs with
  | [v],hvs=>exact callsIn_wide.1 (h w M v hM.gd hM.lt hvs.1)
  | [],hvs=>exact hvs.elim
  | _::_::_,hvs=>exact hvs.2.elim
 by_cases h1:w0=wDone
 ·subst h1
  exact ⟨rp0,true,Nat.zero_le _,rfl,key _ _ fun w M v hg hM hv=>read_dn t w M v hv (by omega)⟩
 by_cases h2:w0=wErr
 ·subst h2
  exact ⟨rpE (erX t).1,(erX t).2,Nat.zero_le _,erX_is t,key _ _ fun w M v hg hM hv=>read_er t hl hs w hg M hM v hv (by omega)⟩
 by_cases h3:w0=wLeader
 ·subst h3
  refine ⟨(ldX t).1,(ldX t).2,?_,ldX_is t,key _ _ fun w M v hg hM hv=>read_ld t hl hs w hg M hM v hv (by omega)⟩
  unfold ldX
  split
  ·rcases atoV _ with _|i
   ·exact Nat.zero_le _
   ·rcases frV _ with _|q<;>exact Nat.zero_le _
  ·exact Nat.zero_le _
 by_cases h4:w0=wPair
 ·subst h4
  refine ⟨(prX t).1,(prX t).2,?_,prX_is t,key _ _ fun w M v hg hM hv=>read_pr t hl hs w hg M hM v hv (by omega)⟩
  unfold prX
  split
  ·rcases atoV _ with _|i
   ·exact Nat.zero_le _
   ·rcases atoV _ with _|j
    ·exact Nat.zero_le _
    ·rcases frV _ with _|q<;>exact Nat.zero_le _
  ·exact Nat.zero_le _
 by_cases h5:w0=wMeet
 ·subst h5
  refine ⟨⟨0,0,0,0,0,(rdMq t).1⟩,(rdMq t).2,Nat.le_trans (rdMq_len t) hl,rdMt_is t,key _ _ fun w M v hg hM hv => ?_⟩
  obtain ⟨b,o,c,rfl,hc,hb,h0,r1,r2⟩:=read_arg hv
  by_cases hc1:c=1
  ·have:=read_mt1 (n:=6) t hl hs w hg M hM b o c hc hb h0 hc1 (r1 hc1) (Nat.le_refl _)
   subst hc1
   exact this
  ·exact read_mt2 (n:=6) t hl hs w hg M hM b o c hc hb h0 hc1 (r2 hc1) (Nat.le_refl _)
 ·refine ⟨rp0,false,Nat.zero_le _,?_,key _ _ fun w M v hg hM hv=>read_no w0 t h1 h2 h3 h4 h5 w M v hv (by omega)⟩
  unfold rdWP
  rw [if_neg h1,if_neg h2,if_neg h3,if_neg h4,if_neg h5]
  rfl
end Go.Proofs.YtfkfficabeclcaaGreatDoor

namespace Go.Proofs.YtfkfficabeclcaaGreatDoor
open Go Go.RowKit Go.Sort Sx
open Go.Lib hiding intOf
set_option maxRecDepth 2000
theorem tReadReply_fn (s:Str) (hs:s.length≤999999):FnOK Tryz.prog 15 [.one (str s)] (retRp (rreadP s)):=by
 unfold rreadP
 by_cases hb:110000<s.length
 ·rw [if_pos hb]
  simp only [retRp,Rp.dc,rp0,mts,List.map_nil]
  refine fn_ok (by kernel_rfl) ty_ok Tryz.func15 rfl (fun _ _=>Tryz.call15 _ _) rfl ?_
  intro hw
  clear hw
  repeat' ((conv=>whnf);first|(with_reducible first|refine br_t ?_|refine br_f ?_|refine za ?_|refine zg ?_)|refine zsl ?_|refine zsg ?_|refine zss ?_|refine zs1 ?_|refine zse ?_|refine zsn ?_|refine zsc ?_|(with_reducible first|refine zpa ?_|refine zqa ?_)|refine zp ?_|refine zq ?_|(with_reducible first|refine bc (fun h => ?_) (fun h => ?_)|refine zt ?_|refine zf ?_|refine br_i (fun h => ?_) (fun h => ?_))|refine zg ?_|refine zi ?_|refine zb ?_)
  all_goals conv=>whnf
  all_goals rfl
 rw [if_neg hb]
 have Hs:FnOK Tryz.prog 44 [.one (str s),.one (str [32])] (.c (.one (strs (spl 32 s)))):=split_fn (s:=s) (c:=32) (by omega)
 have hl1:=spl_len 32 s
 have hl2:=spl_each 32 s
 obtain ⟨w0,t,hL⟩:∃ w0 t,spl 32 s=w0::t:=by
  cases h:spl 32 s with
  | nil=>exact absurd h (spl_ne 32 s)
  | cons a b=>exact ⟨a,b,rfl⟩
 unfold rrdP
 rw [hL] at Hs hl1 hl2 ⊢
 simp only [List.headD_cons,List.tail_cons]
 have hlt:t.length≤1000000:=by simp only [List.length_cons] at hl1;omega
 obtain ⟨X,b,hX0,hX,Hr⟩:=tread_fn w0 t hlt fun x hx=>Nat.le_trans (hl2 x (List.mem_cons_of_mem _ hx)) (by omega)
 rw [hX]
 clear hX hl1 hl2 hL
 cases b
 ·rw [if_neg (by decide),show backR s none=(rp0,12) from rfl]
  obtain ⟨e,i,j,n,d,l⟩:=X
  simp only [retRb,retRp,Rp.dc,rp0,mts,List.map_nil] at Hr ⊢
  refine fn_ok (by kernel_rfl) ty_ok Tryz.func15 rfl (fun _ _=>Tryz.call15 _ _) rfl ?_
  intro hw
  clear hw
  repeat' ((conv=>whnf);first|(with_reducible first|refine br_t ?_|refine br_f ?_|refine za ?_|refine zg ?_)|refine zsl ?_|refine zsg ?_|refine zss ?_|refine zs1 ?_|refine zse ?_|refine zsn ?_|refine zsc ?_|(with_reducible first|refine zpa ?_|refine zqa ?_)|refine zp ?_|refine zq ?_|(with_reducible first|refine bc (fun h => ?_) (fun h => ?_)|refine zt ?_|refine zf ?_|refine br_i (fun h => ?_) (fun h => ?_))|refine zg ?_|refine zi ?_|refine zb ?_)
  all_goals conv=>whnf
  all_goals rfl
 ·rw [if_pos rfl]
  have Ht:=tReply_fn X hX0
  unfold replyV at Ht
  rcases br_cases X s with ⟨h1,h2,h⟩|⟨h1,h2,h⟩|⟨h1,h⟩
  ·rw [if_pos h1,h2] at Ht
   rw [h]
   clear h h1 h2
   obtain ⟨e,i,j,n,d,l⟩:=X
   simp only [retRb,retRp,Rp.dc,retS] at Hr Ht ⊢
   refine fn_ok (by kernel_rfl) ty_ok Tryz.func15 rfl (fun _ _=>Tryz.call15 _ _) rfl ?_
   intro hw
   clear hw
   repeat' ((conv=>whnf);first|(with_reducible first|refine br_t ?_|refine br_f ?_|refine za ?_|refine zg ?_)|refine zsl ?_|refine zsg ?_|refine zss ?_|refine zs1 ?_|refine zse ?_|refine zsn ?_|refine zsc ?_|(with_reducible first|refine zpa ?_|refine zqa ?_)|refine zp ?_|refine zq ?_|(with_reducible first|refine bc (fun h => ?_) (fun h => ?_)|refine zt ?_|refine zf ?_|refine br_i (fun h => ?_) (fun h => ?_))|refine zg ?_|refine zi ?_|refine zb ?_)
   all_goals conv=>whnf
   all_goals first|rfl|contradiction
  ·rw [if_pos h1] at Ht
   rw [h]
   obtain ⟨T,hT⟩:∃ T,T=rText X:=⟨_,rfl⟩
   rw [← hT] at h2 Ht
   clear h h1 hT
   obtain ⟨e,i,j,n,d,l⟩:=X
   simp only [retRb,retRp,Rp.dc,retS,rp0,mts,List.map_nil] at Hr Ht ⊢
   refine fn_ok (by kernel_rfl) ty_ok Tryz.func15 rfl (fun _ _=>Tryz.call15 _ _) rfl ?_
   intro hw
   clear hw
   repeat' ((conv=>whnf);first|(with_reducible first|refine br_t ?_|refine br_f ?_|refine za ?_|refine zg ?_)|refine zsl ?_|refine zsg ?_|refine zss ?_|refine zs1 ?_|refine zse ?_|refine zsn ?_|refine zsc ?_|(with_reducible first|refine zpa ?_|refine zqa ?_)|refine zp ?_|refine zq ?_|(with_reducible first|refine bc (fun h => ?_) (fun h => ?_)|refine zt ?_|refine zf ?_|refine br_i (fun h => ?_) (fun h => ?_))|refine zg ?_|refine zi ?_|refine zb ?_)
   all_goals conv=>whnf
   all_goals first|rfl|contradiction
  ·rw [if_neg (by omega)] at Ht
   rw [h]
   clear h h1
   obtain ⟨e,i,j,n,d,l⟩:=X
   simp only [retRb,retRp,Rp.dc,retS,rp0,mts,List.map_nil] at Hr Ht ⊢
   refine fn_ok (by kernel_rfl) ty_ok Tryz.func15 rfl (fun _ _=>Tryz.call15 _ _) rfl ?_
   intro hw
   clear hw
   repeat' ((conv=>whnf);first|(with_reducible first|refine br_t ?_|refine br_f ?_|refine za ?_|refine zg ?_)|refine zsl ?_|refine zsg ?_|refine zss ?_|refine zs1 ?_|refine zse ?_|refine zsn ?_|refine zsc ?_|(with_reducible first|refine zpa ?_|refine zqa ?_)|refine zp ?_|refine zq ?_|(with_reducible first|refine bc (fun h => ?_) (fun h => ?_)|refine zt ?_|refine zf ?_|refine br_i (fun h => ?_) (fun h => ?_))|refine zg ?_|refine zi ?_|refine zb ?_)
   all_goals conv=>whnf
   all_goals first|rfl|contradiction
end Go.Proofs.YtfkfficabeclcaaGreatDoor

namespace Go.Proofs.YtfkfficabeclcaaGreatDoor
open Go Go.RowKit Go.Sort Sx
open Go.Lib hiding intOf
set_option maxRecDepth 2000
theorem roSameM_fn (a b:Md):FnOK Tryz.prog 20 [a.dc,b.dc] (.c (.one (bol (decide (a=b))))):=roSameModel_fn a b
theorem TLis_fn (r:Rp) (w:Str) (h1:replyV r=(w,0)) (h2:rreadP w=(r,0)) (hl:r.ms.length≤1000000) (hw:w.length≤999999):FnOK Tryz.prog 8 [r.dc,.one (str w)] (.c (.one (bol true))):=by
 have R1:=tReply_fn r hl
 have R2:=tReadReply_fn w hw
 have S1:=roSame_fn r r
 rw [h1] at R1
 rw [h2] at R2
 simp only [decide_true] at S1
 clear h1 h2
 obtain ⟨e,i,j,n,d,l⟩:=r
 simp only [retS,retRp,Rp.dc] at *
 refine fn_ok (by kernel_rfl) ty_ok Tryz.func8 rfl (fun _ _=>Tryz.call8 _ _) rfl ?_
 intro hw
 clear hw
 repeat' ((conv=>whnf);first|(with_reducible first|refine br_t ?_|refine br_f ?_|refine za ?_|refine zg ?_)|refine zsl ?_|refine zsg ?_|refine zss ?_|refine zs1 ?_|refine zse ?_|refine zsn ?_|refine zsc ?_|(with_reducible first|refine zpa ?_|refine zqa ?_)|refine zp ?_|refine zq ?_|(with_reducible first|refine bc (fun h => ?_) (fun h => ?_)|refine zt ?_|refine zf ?_|refine br_i (fun h => ?_) (fun h => ?_))|refine zg ?_|refine zi ?_|refine zb ?_)
 all_goals conv=>whnf
 all_goals first|rfl|exact r_bool (by simp)
theorem TLstands_fn (m:Md) (w:Str) (h1:standV m=(w,0)) (h2:sreadP w=(m,0)) (hw:w.length≤999999):FnOK Tryz.prog 13 [m.dc,.one (str w)] (.c (.one (bol true))):=by
 have R1:=tStanding_fn m
 have R2:=tReadStanding_fn w hw
 have S1:=roSameM_fn m m
 rw [h1] at R1
 rw [h2] at R2
 simp only [decide_true] at S1
 clear h1 h2
 obtain ⟨n,d,l⟩:=m
 simp only [retS,retMe,Md.dc] at *
 refine fn_ok (by kernel_rfl) ty_ok Tryz.func13 rfl (fun _ _=>Tryz.call13 _ _) rfl ?_
 intro hw
 clear hw
 repeat' ((conv=>whnf);first|(with_reducible first|refine br_t ?_|refine br_f ?_|refine za ?_|refine zg ?_)|refine zsl ?_|refine zsg ?_|refine zss ?_|refine zs1 ?_|refine zse ?_|refine zsn ?_|refine zsc ?_|(with_reducible first|refine zpa ?_|refine zqa ?_)|refine zp ?_|refine zq ?_|(with_reducible first|refine bc (fun h => ?_) (fun h => ?_)|refine zt ?_|refine zf ?_|refine br_i (fun h => ?_) (fun h => ?_))|refine zg ?_|refine zi ?_|refine zb ?_)
 all_goals conv=>whnf
 all_goals first|rfl|exact r_bool (by simp)
theorem reply_back {r:Rp} (h:rchk r=0) (hf:rin r) (hl:(rText r).length≤110000):replyV r=(rText r,0)∧rreadP (rText r)=(r,0):=by
 refine ⟨by unfold replyV;rw [if_pos h],?_⟩
 unfold rreadP
 rw [if_neg (by omega)]
 exact rrdP_is.of r ⟨h,hf⟩
theorem stand_back {m:Md} (h:mchk m=0):standV m=(stT m,0)∧sreadP (stT m)=(m,0):=by
 have hl:=stT_len h
 refine ⟨by unfold standV;rw [if_pos h],?_⟩
 unfold sreadP
 rw [if_neg (by omega)]
 exact srdP_is.of m h
end Go.Proofs.YtfkfficabeclcaaGreatDoor

namespace Go.Proofs.YtfkfficabeclcaaGreatDoor
open Go Go.RowKit Go.Sort Sx
open Go.Lib hiding intOf
set_option maxRecDepth 2000
theorem sorted_lit {α:Type} {R:α→α→Prop} (ha:∀ a b,R a b→¬ R b a) {l L:List α} (hp:l.Perm L) (hs:l.Pairwise fun a b=>¬ R b a) (hL:L.Pairwise R):l=L:=by
 refine List.Perm.eq_of_pairwise (le:=fun a b=>¬ R b a) (fun a b ha hb h1 h2 => ?_) hs (hL.imp fun {a b} h=>ha a b h) hp
 obtain ⟨i,hi,rfl⟩:=List.getElem_of_mem (hp.mem_iff.1 ha)
 obtain ⟨j,hj,rfl⟩:=List.getElem_of_mem hb
 rcases Nat.lt_trichotomy i j with h|h|h
 ·exact absurd (List.pairwise_iff_getElem.1 hL i j hi hj h) h2
 ·subst h;rfl
 ·exact absurd (List.pairwise_iff_getElem.1 hL j i hj hi h) h1
theorem ldr_asymm {n m:Int} (a b:Pt) (h:ldr n m a b):¬ ldr n m b a:=by unfold ldr at *;omega
theorem srt_lit {n m:Int} {l L:List Pt} (hp:l.Perm L) (hL:L.Pairwise (ldr n m)):srt n m l=L:=sorted_lit ldr_asymm ((srt_perm n m l).trans hp) (srt_sorted n m l) hL
theorem msrt_lit {l L:List Mt} (hp:l.Perm L) (hL:L.Pairwise mlt):msrt l=L:=sorted_lit (fun _ _ h k=>mlt_asymm h k) ((msrt_perm l).trans hp) (msrt_sorted l) hL
def nxtL (M:List Mt) (n e:Int):Str:=if h:bcnt M n e<M.length then joinS (wNext::mWords M[bcnt M n e]) else wNext0
theorem stT_lit {m:Md} {L:List Pt} {M:List Mt} {T:Str} (h1:m.l.Perm L) (h2:L.Pairwise (ldr m.n m.d)) (h3:(outs (pairsOf m.l)).Perm M) (h4:M.Pairwise mlt) (h5:nlS (headB m::rowsK m.n m.d L m.l.length++[clsB m,nxtL M m.n m.d])=T):stT m=T:=by
 have e:nxtB m=nxtL M m.n m.d:=by
  unfold nxtB nxtV nxtL
  rw [show allM m.l=M from msrt_lit h3 h4]
  by_cases h:bcnt M m.n m.d<M.length
  ·rw [dif_pos h,dif_pos h,if_pos rfl]
  ·rw [dif_neg h,dif_neg h,if_neg (by decide)]
 rw [← h5]
 unfold stT linesV
 rw [e,srt_lit h1 h2]
theorem is_fn (r:Rp) (w:Str) (h:rchk r=0) (h2:r.n≤9223372036854775807 ∧ -9223372036854775808≤r.n∧r.d≤9223372036854775807) (h3:∀ m∈r.ms,m.n≤9223372036854775807 ∧ -9223372036854775808≤m.n∧m.d≤9223372036854775807) (hw:rText r=w) (hl:r.ms.length≤1000000) (hl2:w.length≤110000):FnOK Tryz.prog 8 [r.dc,.one (str w)] (.c (.one (bol true))):=by
 obtain ⟨b1,b2⟩:=reply_back h (rin_of h h2 h3) (by rw [hw];exact hl2)
 rw [hw] at b1 b2
 exact TLis_fn r w b1 b2 hl (by omega)
theorem stands_fn (m:Md) (w:Str) (h:mchk m=0) (hw:stT m=w):FnOK Tryz.prog 13 [m.dc,.one (str w)] (.c (.one (bol true))):=by
 obtain ⟨b1,b2⟩:=stand_back h
 have hl:=stT_len h
 rw [hw] at b1 b2 hl
 exact TLstands_fn m w b1 b2 (by omega)
theorem TLat_fn (n:Int):FnOK Tryz.prog 9 [.one (i64 n)] (.c (rat n 1)):=by
 refine fn_ok (by kernel_rfl) ty_ok Tryz.func9 rfl (fun _ _=>Tryz.call9 _ _) rfl ?_
 intro hw
 clear hw
 exact zw
theorem TLalive_fn:FnOK Tryz.prog 21 [] (.c (.one (bol true))):=by
 have I1:FnOK Tryz.prog 8 [.agg [i64 0,i64 2,i64 0,i64 13,i64 2,.list 4 []],.one (str [108,101,97,100,101,114,32,50,32,49,51,47,50])] (.c (.one (bol true))):=is_fn ⟨0,2,0,13,2,[]⟩ _ (by decide) (by decide) (by decide) (by kernel_rfl) (by decide) (by decide)
 have I2:FnOK Tryz.prog 8 [.agg [i64 0,i64 0,i64 0,i64 0,i64 0,.list 4 [[i64 0,i64 1,i64 1,i64 5],[i64 2,i64 1,i64 1,i64 2]]],.one (str [109,101,101,116,105,110,103,115,32,48,32,49,32,53,32,50,32,49,32,50])] (.c (.one (bol true))):=is_fn ⟨0,0,0,0,0,[⟨0,1,1,5⟩,⟨2,1,1,2⟩]⟩ _ (by decide) (by decide) (by decide) (by kernel_rfl) (by decide) (by decide)
 have I3:FnOK Tryz.prog 13 [.agg [i64 1,i64 1,.list 3 [[i64 1,i64 0,i64 2],[i64 2,i64 6,i64 (-1)]]],.one (str [116,105,109,101,32,49,32,112,111,105,110,116,115,32,50,10,49,32,50,32,53,32,45,49,10,50,32,49,32,50,32,50,10,99,108,111,115,101,115,116,32,49,32,50,32,51,10,110,101,120,116,32,50,32,49,32,50,10])] (.c (.one (bol true))):=stands_fn ⟨1,1,[⟨1,0,2⟩,⟨2,6,-1⟩]⟩ _ (by decide) (stT_lit (L:=[⟨2,6,-1⟩,⟨1,0,2⟩]) (M:=[⟨2,1,1,2⟩]) (by decide) (by decide) (by decide) (by decide) (by kernel_rfl))
 have A0:=TLat_fn 0
 have A1:=TLat_fn 1
 have A2:=TLat_fn 2
 refine fn_ok (by kernel_rfl) ty_ok Tryz.func21 rfl (fun _ _=>Tryz.call21 _ _) rfl ?_
 intro hw
 clear hw
 repeat' ((conv=>whnf);first|(with_reducible first|refine br_t ?_|refine br_f ?_|refine za ?_|refine zg ?_)|refine zsl ?_|refine zsg ?_|refine zss ?_|refine zs1 ?_|refine zse ?_|refine zsn ?_|refine zsc ?_|(with_reducible first|refine zpa ?_|refine zqa ?_)|refine zp ?_|refine zq ?_|(with_reducible first|refine bc (fun h => ?_) (fun h => ?_)|refine zt ?_|refine zf ?_|refine br_i (fun h => ?_) (fun h => ?_))|refine zg ?_|refine zi ?_|refine zb ?_)
 all_goals conv=>whnf
 all_goals rfl
end Go.Proofs.YtfkfficabeclcaaGreatDoor

namespace Go.Proofs.YtfkfficabeclcaaGreatDoor
open Go Go.RowKit Go.Sort Sx
open Go.Lib hiding intOf
set_option maxRecDepth 2000
theorem rowsK_get {n d:Int} {L:List Pt}:∀ {k i:Nat} (hk:k≤L.length) (hi:i<k),(rowsK n d L k)[i]? = some (rowB n d i (L[i]'(by omega)))
 | 0,i,hk,hi=>by omega
 | k+1,i,hk,hi=>by
  have hl:=rowsK_len n d L k (by omega)
  rw [rowsK_succ (by omega)]
  rcases Nat.lt_or_ge i k with h|h
  ·rw [List.getElem?_append_left (by omega)]
   exact rowsK_get (by omega) h
  ·obtain rfl:i=k:=by omega
   rw [List.getElem?_append_right (by omega),hl,Nat.sub_self]
   rfl
theorem lines_get {m:Md} {i:Nat} (hi:i<m.l.length) (his:i<(srt m.n m.d m.l).length):(linesV m++[[]])[i+1]? = some (rowB m.n m.d i (srt m.n m.d m.l)[i]):=by
 have hl:=rowsK_len m.n m.d (srt m.n m.d m.l) m.l.length (by rw [srt_len];exact Nat.le_refl _)
 unfold linesV
 rw [List.append_assoc,List.getElem?_append_left (by rw [List.length_cons,hl];omega),List.getElem?_cons_succ]
 exact rowsK_get (by rw [srt_len];exact Nat.le_refl _) hi
theorem rowB_cat (n d:Int) (k:Nat) (p:Pt):rowB n d k p=(((((itoa ((k+1:Nat):Int)++[32])++itoa p.id)++[32])++(numV (plc p n d).1 (plc p n d).2).1)++[32])++itoa p.b:=by
 unfold rowB
 simp [joinS]
set_option maxRecDepth 100000 in
set_option maxHeartbeats 8000000 in
theorem LTRanks_fn (m:Md):FnOK Tryz.prog 7 [m.dc] (.c (.one (bol true))):=by
 have A:=TLalive_fn
 have G:=rfGreat_fn m.l
 have C:=roCheck_fn m
 have S:=tStanding_fn m
 cases hg:great m.l
 case true =>
  rw [hg] at G
  obtain ⟨n,d,ps⟩:=m
  simp only [Md.dc] at *
  refine fn_ok (by kernel_rfl) ty_ok Tryz.func7 rfl (fun _ _=>Tryz.call7 _ _) rfl ?_
  intro hw
  clear hw
  exact zw
 rw [hg] at G
 by_cases hm:mchk m=0
 case neg =>
  generalize mchk m=z at *
  obtain ⟨n,d,ps⟩:=m
  simp only [Md.dc] at *
  refine fn_ok (by kernel_rfl) ty_ok Tryz.func7 rfl (fun _ _=>Tryz.call7 _ _) rfl ?_
  intro hw
  clear hw
  exact zw
 rw [hm] at C
 obtain ⟨g1,g2⟩:=mchk_ok hm
 obtain ⟨k1,k2,k3⟩:=fchk_ok g2
 rw [(stand_back hm).1] at S
 have hsl:=stT_len hm
 have K:FnOK Tryz.prog 32 [.one (str (stT m)),.one (.v (.int .u8 10))] (.c (.one (strs (spl 10 (stT m))))):=rcCut_fn (stT m) 10 (by omega)
 rw [spl_stT] at K
 have HO:=fOrder_fn m.l m.n m.d
 unfold orderV at HO
 rw [if_pos (tchk_of hm)] at HO
 have hsr:(srt m.n m.d m.l).length=m.l.length:=srt_len ..
 have hll:(m.l.map Pt.c).length=m.l.length:=List.length_map ..
 have hLs:((linesV m++[[]]).map fun s=>[str s]).length=m.l.length+4:=by rw [List.length_map,List.length_append,linesV_len];rfl
 have hol:((ordV m.l m.n m.d).map fun i=>[i64 i]).length=m.l.length:=by unfold ordV;rw [List.length_map,List.length_map,hsr]
 have hgt:=@lines_get m
 have ew4:IntKind.i64.wrap (((m.l.map Pt.c).length:Int)+4)=((m.l.length+4:Nat):Int):=by rw [hll,IntWalk.i64_in _ (by omega)];omega
 simp only [retS,retO] at S HO
 generalize stT m=T at *
 generalize linesV m++[[]]=Ls at *
 refine fn_ok (by kernel_rfl) ty_ok Tryz.func7 rfl (fun _ _=>Tryz.call7 _ _) rfl ?_
 intro hw
 clear hw
 repeat' ((conv=>whnf);first|(with_reducible first|refine br_t ?_|refine br_f ?_|refine za ?_|refine zg ?_)|refine zp ?_|refine zq ?_|(with_reducible first|refine bc (fun h => ?_) (fun h => ?_)|refine zt ?_|refine zf ?_|refine br_i (fun h => ?_) (fun h => ?_))|refine zg ?_|refine zi ?_|refine zb ?_)
 all_goals conv=>whnf
 refine loop_J (by kernel_rfl) ty_ok (σ:=Nat) (fun i=>[(9,sV (.int .i64 (i:Nat)))]) (fun _=>[]) (fun i=>i≤m.l.length) (fun i=>m.l.length-i) 0 (Nat.zero_le _) ?_ ?_
 ·(conv=>whnf);exact zent
 intro i hi
 rcases Nat.lt_or_ge i m.l.length with hlt|hge
 ·have his:i<(srt m.n m.d m.l).length:=by omega
  have hel:((ordV m.l m.n m.d).map fun i=>[i64 i])[((i:Nat):Int).toNat]? = some [i64 (srt m.n m.d m.l)[i].id]:=by
   unfold ordV
   rw [Int.toNat_natCast,List.getElem?_map,List.getElem?_map,List.getElem?_eq_getElem his];rfl
  have hpm:(srt m.n m.d m.l)[i]∈m.l:=(srt_perm m.n m.d m.l).mem_iff.1 (List.getElem_mem his)
  have hpc:=k2 _ hpm
  have HF:=fFind_fn m.l (srt m.n m.d m.l)[i].id
  rw [findV_mem g2 hpm] at HF
  have hplc:=plc_ok hpc g1
  have hpk:=Pt.chk_ok hpc
  have ew:IntKind.i64.wrap ((i:Int)+1)=((i+1:Nat):Int):=by rw [IntWalk.i64_in _ (by omega)];omega
  have hst:(Ls.map fun s=>[str s])[(IntKind.i64.wrap ((i:Int)+1)).toNat]? = some [str (rowB m.n m.d i (srt m.n m.d m.l)[i])]:=by
   rw [ew,Int.toNat_natCast,List.getElem?_map,hgt hlt his];rfl
  rw [rowB_cat] at hst
  generalize (srt m.n m.d m.l)[i]=p at *
  have HA:=kAt_fn p.id p.a p.b m.n m.d
  rw [hplc.1] at HA
  have HN:=cNumber_fn (plc p m.n m.d).1 (plc p m.n m.d).2
  have hN2:(numV (plc p m.n m.d).1 (plc p m.n m.d).2).2=0:=by unfold numV;rw [if_pos hplc.2.1]
  have ln:=numV_len (n:=(plc p m.n m.d).1) (d:=(plc p m.n m.d).2) ⟨by omega,by omega⟩ ⟨by omega,by omega⟩
  have HD1:FnOK Tryz.prog 37 [.one (i64 (IntKind.i64.wrap ((i:Int)+1)))] (.c (.one (str (itoa ((i+1:Nat):Int))))):=by rw [ew];exact rcDecimal_fn _ ⟨by omega,by omega⟩
  have HD1':FnOK Tryz.prog 37 [.one (i64 ((i+1:Nat):Int))] (.c (.one (str (itoa ((i+1:Nat):Int))))):=rcDecimal_fn _ ⟨by omega,by omega⟩
  have HD2':FnOK Tryz.prog 37 [.one (i64 p.id)] (.c (.one (str (itoa p.id)))):=rcDecimal_fn _ ⟨by omega,by omega⟩
  have HD2:FnOK Tryz.prog 37 [.one (i64 (IntKind.i64.wrap p.id))] (.c (.one (str (itoa p.id)))):=by rw [IntWalk.i64_in _ (by omega)];exact rcDecimal_fn _ ⟨by omega,by omega⟩
  have HD3:=rcDecimal_fn p.b ⟨by omega,by omega⟩
  have l1:=itoa_21 (n:=((i+1:Nat):Int)) (by omega) (by omega)
  have l2:=itoa_21 (n:=p.id) (by omega) (by omega)
  have l3:=itoa_21 (n:=p.b) (by omega) (by omega)
  clear hplc A G C S K HO hgt
  generalize itoa ((i+1:Nat):Int)=s1 at *
  generalize itoa p.id=s2 at *
  generalize itoa p.b=s3 at *
  generalize hnv:numV (plc p m.n m.d).1 (plc p m.n m.d).2=nv at *
  obtain ⟨N1,N2⟩:=nv
  simp only at hN2 ln hst
  subst hN2
  clear hnv
  generalize plc p m.n m.d=q at *
  obtain ⟨q1,q2⟩:=q
  obtain ⟨p1,p2,p3⟩:=p
  simp only [retPt,Pt.dc,ret3,retS] at *
  have hww:¬ ¬ (((((s1++[32])++s2)++[32])++N1)++[32])++s3=(((((s1++[32])++s2)++[32])++N1)++[32])++s3:=fun h=>h rfl
  repeat' ((conv=>whnf);first|(with_reducible first|refine br_t ?_|refine br_f ?_|refine za ?_|refine zg ?_)|refine zsl ?_|refine zsg ?_|refine zss ?_|refine zs1 ?_|refine zse ?_|refine zsn ?_|refine zsc ?_|(with_reducible first|refine zpa ?_|refine zqa ?_)|refine zp ?_|refine zq ?_|(with_reducible first|refine bc (fun h => ?_) (fun h => ?_)|refine zt ?_|refine zf ?_|refine br_i (fun h => ?_) (fun h => ?_))|refine zg ?_|refine zi ?_|refine zb ?_)
  all_goals conv=>whnf
  refine ⟨i+1,by omega,?_,by omega⟩
  (conv=>whnf);exact zent
 ·obtain rfl:i=m.l.length:=by omega
  repeat' ((conv=>whnf);first|(with_reducible first|refine br_t ?_|refine br_f ?_|refine za ?_|refine zg ?_)|refine zsl ?_|refine zsg ?_|refine zss ?_|refine zs1 ?_|refine zse ?_|refine zsn ?_|refine zsc ?_|(with_reducible first|refine zpa ?_|refine zqa ?_)|refine zp ?_|refine zq ?_|(with_reducible first|refine bc (fun h => ?_) (fun h => ?_)|refine zt ?_|refine zf ?_|refine br_i (fun h => ?_) (fun h => ?_))|refine zg ?_|refine zi ?_|refine zb ?_)
  all_goals conv=>whnf
  all_goals rfl
end Go.Proofs.YtfkfficabeclcaaGreatDoor
