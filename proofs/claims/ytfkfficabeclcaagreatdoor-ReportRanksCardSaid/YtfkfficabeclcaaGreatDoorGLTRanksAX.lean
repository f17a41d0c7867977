import Derived.Test.YtfkfficabeclcaaGreatDoorGLTRanksAW
import Derived.Test.YtfkfficabeclcaaGreatDoorGLTRanksAV
import Derived.Test.YtfkfficabeclcaaGreatDoorGLTRanksAU
set_option linter.all false
namespace Go.Proofs.YtfkfficabeclcaaGreatDoor
open Go Go.RowKit Go.Sort Sx
open Go.Lib hiding intOf
attribute [local go_sem] str_eql str_neq
theorem read_arg {w:World} {M:Nat→Prop} {w0:Str} {t:List Str} {v:Value} (hv:Rep w M (strs (w0::t)) v):∃ b o c,v=.slice (some ⟨b,o,none⟩) (t.length+1) c∧t.length+1≤c∧b<w.heap.size∧w.cell? ⟨b,o,none⟩=some (bstr w0)∧(c=1→Rep w M (strs t) (.slice (some ⟨b,o,none⟩) t.length 0))∧(c≠1→Rep w M (strs t) (.slice (some ⟨b,o+1,none⟩) t.length (c-1))):=by
 obtain ⟨b,o,c,rfl,hc,hb,hcell⟩:=rep_strs (by simp) hv
 exact ⟨b,o,c,rfl,hc,hb,hcell 0 (by simp),rep_tail hv hc⟩
theorem ld_scan {n:Nat} {t:List Str} {w:World} {M:Nat→Prop} (hM:∀ b,M b→b<w.heap.size) (hg:Gd w) (hl:t.length≤1000000) (hs:∀ x∈t,x.length≤1000000) {v:Value} (hv:Rep w M (strs t) v) :
  CallsIn Fence.wide n Tryz.prog 45 #[v,.slice (some ⟨w.heap.size+2,0,none⟩) 2 2] ((rdW w).alloc (.cells #[.iface 136 (.pointer (some ⟨w.heap.size,1,none⟩)),.iface 93 (.pointer (some ⟨w.heap.size,3,none⟩))] 20)) fun e w'=>e=.returned (.bool (ldX t).2)∧w'.heap[w.heap.size]? = some (.cells (rpC (ldX t).1 (.slice none 0 0)) 28 (0,0))∧Boxed w' (w.heap.size+1) 4 (.bool false)∧Below w.heap.size w w':=by
 obtain ⟨s1,s2,s3,s4⟩:=rdW_ok w
 have h:=scan_one (ts:=[.i w.heap.size 1,.r w.heap.size 3]) (R:=w.heap.size) (n:=w.heap.size) (b:=(ldX t).2) (by simp) (by simp [Tg.b]) hl (by simp) hs (gd_below s4 hg) s2 (by
  intro x hx
  simp only [List.mem_cons,List.not_mem_nil,or_false] at hx
  rcases hx with rfl|rfl
  ·exact cel6 s2 (by decide)
  ·exact ⟨cel6 s2 (by decide),cel6 s2 (by decide)⟩) (gd_size hg) (Nat.le_refl _) (hv.mono (Holds.of_below s4) fun b hb e=>absurd e (by omega)) (fun hlen W' h=>ldX_sc hlen W' h) (fun hlen=>by rw [ldX_no hlen];exact ⟨rfl,rfl⟩)
 rw [s1] at h
 refine callsIn_wide.2 (h.mono ?_)
 rintro e w' ⟨rfl,h1,h2,h3⟩
 exact ⟨rfl,h1,(h2 _ (by omega) (by omega)).trans s3,s4.trans h3⟩
theorem pr_scan {n:Nat} {t:List Str} {w:World} {M:Nat→Prop} (hM:∀ b,M b→b<w.heap.size) (hg:Gd w) (hl:t.length≤1000000) (hs:∀ x∈t,x.length≤1000000) {v:Value} (hv:Rep w M (strs t) v) :
  CallsIn Fence.wide n Tryz.prog 45 #[v,.slice (some ⟨w.heap.size+2,0,none⟩) 3 3] ((rdW w).alloc (.cells #[.iface 136 (.pointer (some ⟨w.heap.size,1,none⟩)),.iface 136 (.pointer (some ⟨w.heap.size,2,none⟩)),.iface 93 (.pointer (some ⟨w.heap.size,3,none⟩))] 20)) fun e w'=>e=.returned (.bool (prX t).2)∧w'.heap[w.heap.size]? = some (.cells (rpC (prX t).1 (.slice none 0 0)) 28 (0,0))∧Boxed w' (w.heap.size+1) 4 (.bool false)∧Below w.heap.size w w':=by
 obtain ⟨s1,s2,s3,s4⟩:=rdW_ok w
 have h:=scan_one (ts:=[.i w.heap.size 1,.i w.heap.size 2,.r w.heap.size 3]) (R:=w.heap.size) (n:=w.heap.size) (b:=(prX t).2) (by simp) (by simp [Tg.b]) hl (by simp) hs (gd_below s4 hg) s2 (by
  intro x hx
  simp only [List.mem_cons,List.not_mem_nil,or_false] at hx
  rcases hx with rfl|rfl|rfl
  ·exact cel6 s2 (by decide)
  ·exact cel6 s2 (by decide)
  ·exact ⟨cel6 s2 (by decide),cel6 s2 (by decide)⟩) (gd_size hg) (Nat.le_refl _) (hv.mono (Holds.of_below s4) fun b hb e=>absurd e (by omega)) (fun hlen W' h=>prX_sc hlen W' h) (fun hlen=>by rw [prX_no hlen];exact ⟨rfl,rfl⟩)
 rw [s1] at h
 refine callsIn_wide.2 (h.mono ?_)
 rintro e w' ⟨rfl,h1,h2,h3⟩
 exact ⟨rfl,h1,(h2 _ (by omega) (by omega)).trans s3,s4.trans h3⟩
theorem drew_heap (W:World):W.drew.heap=W.heap:=rfl
def rpFin0 (n0:Nat) (W:World) (u v x y z m e:Value):World:=((((((W.setCell ⟨n0,0,none⟩ u).setCell ⟨n0,1,none⟩ v).setCell ⟨n0,2,none⟩ x).setCell ⟨n0,3,none⟩ y).setCell ⟨n0,4,none⟩ z).setCell ⟨n0,5,none⟩ m).setCell ⟨n0+1,0,none⟩ e
def rpFin (n0:Nat) (W:World) (u v x y z m e:Value):World:=(rpFin0 n0 W u v x y z m e).drew
theorem rpFin_ok {w W:World} {n0:Nat} {cs:Array Value} {e':Value} (u v x y z m e:Value) (hc:cs.size=6) (h6:W.heap[n0]? = some (.cells cs 28 (0,0))) (h7:Boxed W (n0+1) 4 e') (hn:w.heap.size≤n0) (h8:Below w.heap.size w W) :
  (rpFin n0 W u v x y z m e).heap[n0]? = some (.cells #[u,v,x,y,z,m] 28 (0,0))∧Boxed (rpFin n0 W u v x y z m e) (n0+1) 4 e∧Below w.heap.size w (rpFin n0 W u v x y z m e)∧(∀ k,k≠n0→k≠n0+1→(rpFin n0 W u v x y z m e).heap[k]? = W.heap[k]?):=by
 refine ⟨?_,?_,?_,?_⟩
 ·rw [rpFin,drew_heap]
  unfold rpFin0
  refine setCell_o (by omega) ?_
  rw [set6 5 m (set6 4 z (set6 3 y (set6 2 x (set6 1 v (set6 0 u h6)))))]
  obtain ⟨l⟩:=cs
  match l,hc with
  | [_,_,_,_,_,_],_=>rfl
 ·unfold Boxed
  rw [rpFin,drew_heap]
  unfold rpFin0
  refine Boxed.set e (v:=e') ?_
  exact setCell_o (by omega) (setCell_o (by omega) (setCell_o (by omega) (setCell_o (by omega) (setCell_o (by omega) (setCell_o (by omega) h7)))))
 ·refine Below.drew ?_
  unfold rpFin0
  exact ((((((h8.setCell hn _).setCell hn _).setCell hn _).setCell hn _).setCell hn _).setCell hn _).setCell (by show w.heap.size≤n0+1;omega) _
 ·intro k h1 h2
  rw [rpFin,drew_heap]
  unfold rpFin0
  exact (setCell_other h2).trans ((setCell_other h1).trans ((setCell_other h1).trans ((setCell_other h1).trans ((setCell_other h1).trans ((setCell_other h1).trans (setCell_other h1))))))
theorem read_end0 {n:Nat} {w W:World} {M:Nat→Prop} {tmps:Array Value} {r:Rp} {ms:Value} {ok:Bool} (h2:tmps[2]? = some (.pointer (some ⟨w.heap.size,0,none⟩))) (h3:tmps[3]? = some (.pointer (some ⟨w.heap.size+1,0,none⟩)))
  (h6:W.heap[w.heap.size]? = some (.cells (rpC r ms) 28 (0,0))) (h7:Boxed W (w.heap.size+1) 4 (.bool ok)) (h8:Below w.heap.size w W) (hr:rpIn r) (hm:Rep W M (mts r.ms) ms) :
  bodyPostM Fence.wide n Tryz.prog Tryz.f43 (fun e w'=>∃ u,e=.returned u∧DVR w' M (retRb r ok) u∧Below w.heap.size w w') Exit.ret { tmps:=tmps,defers:=[] } W:=by
 obtain ⟨q1,q2,q3,q4,q5⟩:=hr
 refine ⟨_,results_read tmps h2 h3 h6 h7,_,rfl,?_,h8⟩
 exact ⟨_,rfl,⟨_,rfl,.v _ rfl q1,.v _ rfl q2,.v _ rfl q3,.v _ rfl q4,.v _ rfl q5,hm,trivial⟩,.v _ rfl trivial,trivial⟩
theorem rep_nil4 {W:World} {M:Nat→Prop} {r:Rp} (hm:r.ms=[]):Rep W M (mts r.ms) (.slice none 0 0):=by
 rw [hm]
 exact .nil 4 none 0 (by decide) (fun _=>rfl)
theorem read_end {n:Nat} {w W:World} {M:Nat→Prop} {tmps:Array Value} {r:Rp} {ok:Bool} (h2:tmps[2]? = some (.pointer (some ⟨w.heap.size,0,none⟩))) (h3:tmps[3]? = some (.pointer (some ⟨w.heap.size+1,0,none⟩)))
  (h6:W.heap[w.heap.size]? = some (.cells (rpC r (.slice none 0 0)) 28 (0,0))) (h7:Boxed W (w.heap.size+1) 4 (.bool ok)) (h8:Below w.heap.size w W) (hr:rpIn r) (hm:r.ms=[]) :
  bodyPostM Fence.wide n Tryz.prog Tryz.f43 (fun e w'=>∃ u,e=.returned u∧DVR w' M (retRb r ok) u∧Below w.heap.size w w') Exit.ret { tmps:=tmps,defers:=[] } (rpFin w.heap.size W (.int .i64 r.e) (.int .i64 r.i) (.int .i64 r.j) (.int .i64 r.n) (.int .i64 r.d) (.slice none 0 0) (.bool ok)):=by
 obtain ⟨x1,x2,x3,_⟩:=rpFin_ok (w:=w) (.int .i64 r.e) (.int .i64 r.i) (.int .i64 r.j) (.int .i64 r.n) (.int .i64 r.d) (.slice none 0 0) (.bool ok) rfl h6 h7 (Nat.le_refl _) h8
 exact read_end0 h2 h3 x1 x2 x3 hr (rep_nil4 hm)
set_option maxRecDepth 100000 in
set_option maxHeartbeats 4000000 in
theorem read_ld {n:Nat} (t:List Str) (hl:t.length≤1000000) (hs:∀ x∈t,x.length≤1000000) (w:World) (hg:Gd w) (M:Nat→Prop) (hM:∀ b,M b→b<w.heap.size) (v:Value) (hv:Rep w M (strs (wLeader::t)) v) (hn:1≤n) :
  CallsIn Fence.wide n Tryz.prog 43 #[v] w fun e w'=>∃ u,e=.returned u∧DVR w' M (retRb (ldX t).1 (ldX t).2) u∧Below w.heap.size w w':=by
 obtain ⟨b,o,c,rfl,hc,hb,h0,r1,r2⟩:=read_arg hv
 have q1:=fun h=>ld_scan (n:=n-1) hM hg hl hs (r1 h)
 have q2:=fun h=>ld_scan (n:=n-1) hM hg hl hs (r2 h)
 clear r1 r2
 have hf1:Fence.wide.fn 45:=trivial
 have hX:=ldX_in t
 have hXm:(ldX t).1.ms=[]:=by
  unfold ldX
  split
  ·rcases atoV _ with _|i
   ·rfl
   ·rcases frV _ with _|q<;>rfl
  ·rfl
 generalize ldX t=p at *
 obtain ⟨⟨xe,xi,xj,xn,xd,xm⟩,ok⟩:=p
 simp only [rdW,rpC,rp0] at q1 q2 hX hXm
 subst hXm
 refine callsIn_of_wp_marks Tryz.func43 rfl trivial ?_ rfl
 simp only [Tryz.ntmps43,List.size_toArray,List.length_cons,List.length_nil,Nat.reduceAdd,Nat.reduceSub,Array.replicate_succ,Array.replicate_zero,List.push_toArray,List.append_toArray,List.nil_append,List.cons_append]
 gi_wp2_with (first
  | (gi_at_call 45;(first|with_reducible refine CallsIn.mono (q1 (by assumption)) ?_|with_reducible refine CallsIn.mono (q2 (by assumption)) ?_);rintro e W5 ⟨rfl,hR5,hK5,hB5⟩;obtain ⟨⟨a0,a1,a2,a3,a4,a5⟩,fz⟩:=cells6 hR5;have f0:=fz 0;have f1:=fz 1;have f2:=fz 2;have f3:=fz 3;have f4:=fz 4;have f5:=fz 5;have e0:=hK5.cell;have e1:=hK5.frozen))
 all_goals
  obtain ⟨W6,hW6⟩:∃ W6,W6=W5.setCell ⟨w.heap.size+1,0,none⟩ (.bool ok):=⟨_,rfl⟩
  have g6:W6.heap[w.heap.size]? = some (.cells #[.int .i64 xe,.int .i64 xi,.int .i64 xj,.int .i64 xn,.int .i64 xd,.slice none 0 0] 28 (0,0)):=by rw [hW6];exact setCell_o (by omega) hR5
  have g7:Boxed W6 (w.heap.size+1) 4 (.bool ok):=by rw [hW6];exact hK5.set _
  have g8:Below w.heap.size w W6:=by rw [hW6];exact hB5.setCell (by show w.heap.size≤w.heap.size+1;omega) _
  rw [← hW6]
  clear hW6 a0 a1 a2 a3 a4 a5 f0 f1 f2 f3 f4 f5 e0 e1 q1 q2 fz hR5 hK5 hB5
  obtain ⟨⟨a0,a1,a2,a3,a4,a5⟩,fz⟩:=cells6 g6
  have f0:=fz 0
  have f1:=fz 1
  have f2:=fz 2
  have f3:=fz 3
  have f4:=fz 4
  have f5:=fz 5
  have e0:=g7.cell
  have e1:=g7.frozen
  gi_region
  gi_wp2
  exact read_end (r:=⟨xe,xi,xj,xn,xd,[]⟩) rfl rfl g6 g7 g8 hX rfl
set_option maxRecDepth 100000 in
set_option maxHeartbeats 4000000 in
theorem read_pr {n:Nat} (t:List Str) (hl:t.length≤1000000) (hs:∀ x∈t,x.length≤1000000) (w:World) (hg:Gd w) (M:Nat→Prop) (hM:∀ b,M b→b<w.heap.size) (v:Value) (hv:Rep w M (strs (wPair::t)) v) (hn:1≤n) :
  CallsIn Fence.wide n Tryz.prog 43 #[v] w fun e w'=>∃ u,e=.returned u∧DVR w' M (retRb (prX t).1 (prX t).2) u∧Below w.heap.size w w':=by
 obtain ⟨b,o,c,rfl,hc,hb,h0,r1,r2⟩:=read_arg hv
 have q1:=fun h=>pr_scan (n:=n-1) hM hg hl hs (r1 h)
 have q2:=fun h=>pr_scan (n:=n-1) hM hg hl hs (r2 h)
 clear r1 r2
 have hf1:Fence.wide.fn 45:=trivial
 have hX:=prX_in t
 have hXm:(prX t).1.ms=[]:=by
  unfold prX
  split
  ·rcases atoV _ with _|i
   ·rfl
   ·rcases atoV _ with _|j
    ·rfl
    ·rcases frV _ with _|q<;>rfl
  ·rfl
 generalize prX t=p at *
 obtain ⟨⟨xe,xi,xj,xn,xd,xm⟩,ok⟩:=p
 simp only [rdW,rpC,rp0] at q1 q2 hX hXm
 subst hXm
 refine callsIn_of_wp_marks Tryz.func43 rfl trivial ?_ rfl
 simp only [Tryz.ntmps43,List.size_toArray,List.length_cons,List.length_nil,Nat.reduceAdd,Nat.reduceSub,Array.replicate_succ,Array.replicate_zero,List.push_toArray,List.append_toArray,List.nil_append,List.cons_append]
 gi_wp2_with (first
  | (gi_at_call 45;(first|with_reducible refine CallsIn.mono (q1 (by assumption)) ?_|with_reducible refine CallsIn.mono (q2 (by assumption)) ?_);rintro e W5 ⟨rfl,hR5,hK5,hB5⟩;obtain ⟨⟨a0,a1,a2,a3,a4,a5⟩,fz⟩:=cells6 hR5;have f0:=fz 0;have f1:=fz 1;have f2:=fz 2;have f3:=fz 3;have f4:=fz 4;have f5:=fz 5;have e0:=hK5.cell;have e1:=hK5.frozen))
 all_goals
  obtain ⟨W6,hW6⟩:∃ W6,W6=W5.setCell ⟨w.heap.size+1,0,none⟩ (.bool ok):=⟨_,rfl⟩
  have g6:W6.heap[w.heap.size]? = some (.cells #[.int .i64 xe,.int .i64 xi,.int .i64 xj,.int .i64 xn,.int .i64 xd,.slice none 0 0] 28 (0,0)):=by rw [hW6];exact setCell_o (by omega) hR5
  have g7:Boxed W6 (w.heap.size+1) 4 (.bool ok):=by rw [hW6];exact hK5.set _
  have g8:Below w.heap.size w W6:=by rw [hW6];exact hB5.setCell (by show w.heap.size≤w.heap.size+1;omega) _
  rw [← hW6]
  clear hW6 a0 a1 a2 a3 a4 a5 f0 f1 f2 f3 f4 f5 e0 e1 q1 q2 fz hR5 hK5 hB5
  obtain ⟨⟨a0,a1,a2,a3,a4,a5⟩,fz⟩:=cells6 g6
  have f0:=fz 0
  have f1:=fz 1
  have f2:=fz 2
  have f3:=fz 3
  have f4:=fz 4
  have f5:=fz 5
  have e0:=g7.cell
  have e1:=g7.frozen
  gi_region
  gi_wp2
  exact read_end (r:=⟨xe,xi,xj,xn,xd,[]⟩) rfl rfl g6 g7 g8 hX rfl
theorem er_scan {n:Nat} {t:List Str} {w:World} {M:Nat→Prop} (hM:∀ b,M b→b<w.heap.size) (hg:Gd w) (hl:t.length≤1000000) (hs:∀ x∈t,x.length≤1000000) {v:Value} (hv:Rep w M (strs t) v) :
  CallsIn Fence.wide n Tryz.prog 45 #[v,.slice (some ⟨w.heap.size+3,0,none⟩) 1 1] (((rdW w).alloc (.cells #[.int .i64 0] 3)).alloc (.cells #[.iface 136 (.pointer (some ⟨w.heap.size+2,0,none⟩))] 20)) fun e w'=>e=.returned (.bool (erX t).2)∧w'.heap[w.heap.size]? = some (.cells (rpC rp0 (.slice none 0 0)) 28 (0,0))∧Boxed w' (w.heap.size+1) 4 (.bool false)∧Boxed w' (w.heap.size+2) 3 (.int .i64 (erX t).1)∧Below w.heap.size w w':=by
 obtain ⟨s1,s2,s3,s4⟩:=rdW_ok w
 obtain ⟨W,hW⟩:∃ W,W=(rdW w).alloc (.cells #[.int .i64 0] 3):=⟨_,rfl⟩
 have t1:W.heap.size=w.heap.size+3:=by rw [hW,World.size_alloc,s1]
 have t2:W.heap[w.heap.size+2]? = some (.cells #[.int .i64 0] 3 (0,0)):=by rw [hW,← s1];exact World.alloc_heap_new _ _
 have t3:Below (w.heap.size+2) (rdW w) W:=by rw [hW,← s1];exact (Below.refl _ _).alloc (Nat.le_refl _) _
 have t4:Below w.heap.size w W:=s4.trans (t3.mono (by omega))
 rw [← hW]
 clear hW
 have h:=scan_one (ts:=[.i (w.heap.size+2) 0]) (R:=w.heap.size+2) (n:=w.heap.size) (b:=(erX t).2) (by simp) (by simp [Tg.b]) hl (by simp) hs (gd_below t4 hg) t2 (by
  intro x hx
  obtain rfl:=List.mem_singleton.1 hx
  exact cel6 t2 (by decide)) (by have:=gd_size hg;omega) (by omega) (hv.mono (Holds.of_below t4) fun b hb e=>absurd e (by omega)) (fun hlen W' h=>erX_sc hlen W' h) (fun hlen=>by rw [erX_no hlen];exact ⟨rfl,rfl⟩)
 rw [t1] at h
 refine callsIn_wide.2 (h.mono ?_)
 rintro e w' ⟨rfl,h1,h2,h3⟩
 exact ⟨rfl,(h2 _ (by omega) (by omega)).trans ((t3.block _ (by omega)).trans s2),(h2 _ (by omega) (by omega)).trans ((t3.block _ (by omega)).trans s3),h1,t4.trans h3⟩
set_option maxRecDepth 100000 in
set_option maxHeartbeats 4000000 in
theorem read_er {n:Nat} (t:List Str) (hl:t.length≤1000000) (hs:∀ x∈t,x.length≤1000000) (w:World) (hg:Gd w) (M:Nat→Prop) (hM:∀ b,M b→b<w.heap.size) (v:Value) (hv:Rep w M (strs (wErr::t)) v) (hn:1≤n) :
  CallsIn Fence.wide n Tryz.prog 43 #[v] w fun e w'=>∃ u,e=.returned u∧DVR w' M (retRb (rpE (erX t).1) (erX t).2) u∧Below w.heap.size w w':=by
 obtain ⟨b,o,c,rfl,hc,hb,h0,r1,r2⟩:=read_arg hv
 have q1:=fun h=>er_scan (n:=n-1) hM hg hl hs (r1 h)
 have q2:=fun h=>er_scan (n:=n-1) hM hg hl hs (r2 h)
 clear r1 r2
 have hf1:Fence.wide.fn 45:=trivial
 have hX:=erX_in t
 generalize erX t=p at *
 obtain ⟨xe,ok⟩:=p
 simp only [rdW,rpC,rp0] at q1 q2 hX
 refine callsIn_of_wp_marks Tryz.func43 rfl trivial ?_ rfl
 simp only [Tryz.ntmps43,List.size_toArray,List.length_cons,List.length_nil,Nat.reduceAdd,Nat.reduceSub,Array.replicate_succ,Array.replicate_zero,List.push_toArray,List.append_toArray,List.nil_append,List.cons_append]
 gi_wp2_with (first
  | (gi_at_call 45;(first|with_reducible refine CallsIn.mono (q1 (by assumption)) ?_|with_reducible refine CallsIn.mono (q2 (by assumption)) ?_);rintro e W5 ⟨rfl,hR5,hK5,hN5,hB5⟩;have b0:=hN5.cell;have b1:=hN5.frozen;obtain ⟨⟨a0,a1,a2,a3,a4,a5⟩,fz⟩:=cells6 hR5;have f0:=fz 0;have f1:=fz 1;have f2:=fz 2;have f3:=fz 3;have f4:=fz 4;have f5:=fz 5;have e0:=hK5.cell;have e1:=hK5.frozen))
 all_goals
  obtain ⟨W6,hW6⟩:∃ W6,W6=(W5.setCell ⟨w.heap.size+1,0,none⟩ (.bool ok)).setCell ⟨w.heap.size,0,none⟩ (.int .i64 xe):=⟨_,rfl⟩
  have g6:W6.heap[w.heap.size]? = some (.cells #[.int .i64 xe,.int .i64 0,.int .i64 0,.int .i64 0,.int .i64 0,.slice none 0 0] 28 (0,0)):=by rw [hW6];exact set6 0 _ (setCell_o (by omega) hR5)
  have g7:Boxed W6 (w.heap.size+1) 4 (.bool ok):=by
   rw [hW6]
   have:=hK5.set (.bool ok)
   exact setCell_o (by omega) this
  have g8:Below w.heap.size w W6:=by rw [hW6];exact (hB5.setCell (by show w.heap.size≤w.heap.size+1;omega) _).setCell (Nat.le_refl _) _
  rw [← hW6]
  clear hW6 a0 a1 a2 a3 a4 a5 f0 f1 f2 f3 f4 f5 e0 e1 b0 b1 q1 q2 fz hR5 hK5 hN5 hB5
  obtain ⟨⟨a0,a1,a2,a3,a4,a5⟩,fz⟩:=cells6 g6
  have f0:=fz 0
  have f1:=fz 1
  have f2:=fz 2
  have f3:=fz 3
  have f4:=fz 4
  have f5:=fz 5
  have e0:=g7.cell
  have e1:=g7.frozen
  gi_region
  gi_wp2
  exact read_end (r:=rpE xe) rfl rfl g6 g7 g8 ⟨hX,in0,in0,in0,in0⟩ rfl
set_option maxRecDepth 100000 in
set_option maxHeartbeats 4000000 in
theorem read_no {n:Nat} (w0:Str) (t:List Str) (h1:w0≠wDone) (h2:w0≠wErr) (h3:w0≠wLeader) (h4:w0≠wPair) (h5:w0≠wMeet) (w:World) (M:Nat→Prop) (v:Value) (hv:Rep w M (strs (w0::t)) v) (hn:1≤n) :
  CallsIn Fence.wide n Tryz.prog 43 #[v] w fun e w'=>∃ u,e=.returned u∧DVR w' M (retRb rp0 false) u∧Below w.heap.size w w':=by
 obtain ⟨b,o,c,rfl,hc,hb,h0,r1,r2⟩:=read_arg hv
 clear r1 r2
 obtain ⟨s1,s2,s3,s4⟩:=rdW_ok w
 unfold rdW at s1 s2 s3 s4
 simp only [rpC,rp0] at s1 s2 s3 s4
 replace h1:(w0 == [100,111,110,101])=false:=beq_eq_false_iff_ne.2 h1
 replace h2:(w0 == [101,114,114,111,114])=false:=beq_eq_false_iff_ne.2 h2
 replace h3:(w0 == [108,101,97,100,101,114])=false:=beq_eq_false_iff_ne.2 h3
 replace h4:(w0 == [112,97,105,114])=false:=beq_eq_false_iff_ne.2 h4
 replace h5:(w0 == [109,101,101,116,105,110,103,115])=false:=beq_eq_false_iff_ne.2 h5
 refine callsIn_of_wp_marks Tryz.func43 rfl trivial ?_ rfl
 simp only [Tryz.ntmps43,List.size_toArray,List.length_cons,List.length_nil,Nat.reduceAdd,Nat.reduceSub,Array.replicate_succ,Array.replicate_zero,List.push_toArray,List.append_toArray,List.nil_append,List.cons_append]
 have hx:∀ W6:World,W6=(w.alloc (.cells #[.int .i64 0,.int .i64 0,.int .i64 0,.int .i64 0,.int .i64 0,.slice none 0 0] 28)).alloc (.cells #[.bool false] 4)→W6.heap[w.heap.size]? = some (.cells #[.int .i64 0,.int .i64 0,.int .i64 0,.int .i64 0,.int .i64 0,.slice none 0 0] 28 (0,0))∧Boxed W6 (w.heap.size+1) 4 (.bool false)∧Below w.heap.size w W6:=fun W6 e=>by subst e;exact ⟨s2,s3,s4⟩
 clear s1 s2 s3 s4
 gi_wp2
 all_goals
  obtain ⟨W6,hW6⟩:∃ W6,W6=(w.alloc (.cells #[.int .i64 0,.int .i64 0,.int .i64 0,.int .i64 0,.int .i64 0,.slice none 0 0] 28)).alloc (.cells #[.bool false] 4):=⟨_,rfl⟩
  obtain ⟨g6,g7,g8⟩:=hx W6 hW6
  rw [← hW6]
  clear hW6 hx
  obtain ⟨⟨a0,a1,a2,a3,a4,a5⟩,fz⟩:=cells6 g6
  have f0:=fz 0
  have f1:=fz 1
  have f2:=fz 2
  have f3:=fz 3
  have f4:=fz 4
  have f5:=fz 5
  have e0:=g7.cell
  have e1:=g7.frozen
  gi_region
  gi_wp2
  exact read_end (r:=rp0) rfl rfl g6 g7 g8 ⟨in0,in0,in0,in0,in0⟩ rfl
set_option maxRecDepth 100000 in
set_option maxHeartbeats 4000000 in
theorem read_dn {n:Nat} (t:List Str) (w:World) (M:Nat→Prop) (v:Value) (hv:Rep w M (strs (wDone::t)) v) (hn:1≤n) :
  CallsIn Fence.wide n Tryz.prog 43 #[v] w fun e w'=>∃ u,e=.returned u∧DVR w' M (retRb rp0 true) u∧Below w.heap.size w w':=by
 obtain ⟨b,o,c,rfl,hc,hb,h0,r1,r2⟩:=read_arg hv
 clear r1 r2
 have hd:(wDone == [100,111,110,101])=true:=by decide
 refine callsIn_of_wp_marks Tryz.func43 rfl trivial ?_ rfl
 simp only [Tryz.ntmps43,List.size_toArray,List.length_cons,List.length_nil,Nat.reduceAdd,Nat.reduceSub,Array.replicate_succ,Array.replicate_zero,List.push_toArray,List.append_toArray,List.nil_append,List.cons_append]
 gi_wp2
 refine read_end0 (r:=rp0) (ms:=.slice none 0 0) rfl rfl ?_ ?_ ?_ ⟨in0,in0,in0,in0,in0⟩ (rep_nil4 rfl)
 ·rw [Below.heap_alloc _ _ _ (by simp)];exact World.alloc_heap_new w _
 ·have:=World.alloc_heap_new (w.alloc (.cells (rpC rp0 (.slice none 0 0)) 28)) (.cells #[.bool true] 4)
  rwa [World.size_alloc] at this
 ·exact ((Below.refl _ _).alloc (Nat.le_refl _) _).alloc (by simp) _
end Go.Proofs.YtfkfficabeclcaaGreatDoor

namespace Go.Proofs.YtfkfficabeclcaaGreatDoor
open Go Go.RowKit Go.Sort Sx
open Go.Lib hiding intOf
def mtZ:Mt:=⟨0,0,0,0⟩
def mtC (m:Mt):Array Value:=#[.int .i64 m.n,.int .i64 m.d,.int .i64 m.i,.int .i64 m.j]
def mtV (m:Mt):List Value:=[.int .i64 m.n,.int .i64 m.d,.int .i64 m.i,.int .i64 m.j]
def mtX:List Str→Mt × Bool
 | [a,b,c]=>match frV a with
  | none=>(mtZ,false)
  | some q=>match atoV b with
   | none=>(⟨q.1,q.2,0,0⟩,false)
   | some i=>match atoV c with
    | none=>(⟨q.1,q.2,i,0⟩,false)
    | some j=>(⟨q.1,q.2,i,j⟩,true)
 | _=>(mtZ,false)
def rdMq:List Str→List Mt × Bool
 | []=>([],true)
 | a::b::c::r=>if (mtX [a,b,c]).2=true then ((mtX [a,b,c]).1::(rdMq r).1,(rdMq r).2) else ([],false)
 | _=>([],false)
theorem rdMq_is:∀ t:List Str,rdMs t=if (rdMq t).2=true then some (rdMq t).1 else none
 | []=>rfl
 | [_]=>rfl
 | [_,_]=>rfl
 | a::b::c::r=>by
  have ih:=rdMq_is r
  rcases h1:frV a with _|q
  ·simp [rdMs,rdMq,mtX,h1]
  ·rcases h2:atoV b with _|i
   ·simp [rdMs,rdMq,mtX,h1,h2]
   ·rcases h3:atoV c with _|j
    ·simp [rdMs,rdMq,mtX,h1,h2,h3]
    ·by_cases h4:(rdMq r).2=true
     ·simp [rdMs,rdMq,mtX,h1,h2,h3,ih,h4]
     ·simp [rdMs,rdMq,mtX,h1,h2,h3,ih,h4]
theorem rdMq_len:∀ t:List Str,(rdMq t).1.length≤t.length
 | []=>Nat.le_refl _
 | [_]=>Nat.zero_le _
 | [_,_]=>Nat.zero_le _
 | a::b::c::r=>by
  have ih:=rdMq_len r
  rw [rdMq]
  split<;>simp only [List.length_cons,List.length_nil]<;>omega
theorem rdMt_is (t:List Str):rdWP wMeet t=if (rdMq t).2=true then some ⟨0,0,0,0,0,(rdMq t).1⟩ else none:=by
 unfold rdWP
 rw [if_neg (by decide),if_neg (by decide),if_neg (by decide),if_neg (by decide),if_pos rfl,rdMq_is]
 split<;>rfl
theorem mtX_sc {R:Nat}:∀ {t:List Str},t.length=3→∀ W:World,W.heap[R]? = some (.cells (mtC mtZ) 31 (0,0))→(scanW t [.r R 0,.i R 2,.i R 3] W).2=(mtX t).2∧(scanW t [.r R 0,.i R 2,.i R 3] W).1.heap[R]? = some (.cells (mtC (mtX t).1) 31 (0,0))
 | [a,b,c],_,W,h=>by
  unfold scanW mtX
  simp only [Tg.put]
  cases frV a with
  | none=>exact ⟨rfl,h⟩
  | some q =>
   simp only [Option.map_some]
   unfold scanW
   simp only [Tg.put]
   have h1:=set6 1 (.int .i64 q.2) (set6 0 (.int .i64 q.1) h)
   cases atoV b with
   | none=>exact ⟨rfl,h1⟩
   | some i =>
    simp only [Option.map_some]
    unfold scanW
    simp only [Tg.put]
    have h2:=set6 2 (.int .i64 i) h1
    cases atoV c with
    | none=>exact ⟨rfl,h2⟩
    | some j =>
     simp only [Option.map_some]
     unfold scanW
     exact ⟨rfl,set6 3 (.int .i64 j) h2⟩
 | [],h,_,_=>by cases h
 | [_],h,_,_=>by cases h
 | [_,_],h,_,_=>by cases h
 | _::_::_::_::_,h,_,_=>by simp at h
theorem mtX_no {t:List Str} (h:t.length≠3):mtX t=(mtZ,false):=by
 match t,h with
 | [a,b,c],h=>exact absurd rfl h
 | [],_=>rfl
 | [_],_=>rfl
 | [_,_],_=>rfl
 | _::_::_::_::_,_=>rfl
def mtIn (m:Mt):Prop:=in64 m.n∧in64 m.d∧in64 m.i∧in64 m.j
theorem mtX_in (t:List Str):mtIn (mtX t).1:=by
 unfold mtX
 split
 ·rcases h1:frV _ with _|q
  ·exact ⟨in0,in0,in0,in0⟩
  ·rcases h2:atoV _ with _|i
   ·exact ⟨(frV_in h1).1,(frV_in h1).2,in0,in0⟩
   ·rcases h3:atoV _ with _|j
    ·exact ⟨(frV_in h1).1,(frV_in h1).2,atoV_in h2,in0⟩
    ·exact ⟨(frV_in h1).1,(frV_in h1).2,atoV_in h2,atoV_in h3⟩
 ·exact ⟨in0,in0,in0,in0⟩
theorem rep_ownMt {W:World} {n0:Nat} {v:Value} {l:List Mt} {M:Nat→Prop} (h:W.ownsRow n0 31 4 v l.length (l.flatMap mtV)) (hok:∀ p∈l,mtIn p) (hM:∀ b,M b→b<n0):Rep W M (mts l) v:=by
 rcases h.2 with ⟨rfl,h0⟩|⟨g,cap,cur,rfl,hb,hgb,h1,h2,h3,h4⟩
 ·have:l=[]:=List.eq_nil_of_length_eq_zero h0
  subst this
  exact .nil 4 none 0 (by decide) (fun _=>rfl)
 ·have hl:(l.map Mt.c).length=l.length:=List.length_map ..
  have hD:∀ (l:List Mt),(∀ p∈l,mtIn p)→DsR W M (l.map Mt.c).flatten (l.flatMap mtV):=by
   intro l
   induction l with
   | nil=>intro _;trivial
   | cons p l ih =>
    intro hok
    obtain ⟨q1,q2,q3,q4⟩:=hok p (List.mem_cons_self ..)
    rw [List.map_cons,List.flatten_cons,List.flatMap_cons]
    exact ⟨.v _ rfl q1,.v _ rfl q2,.v _ rfl q3,.v _ rfl q4,ih fun p hp=>hok p (List.mem_cons_of_mem _ hp)⟩
  have hlen:(l.flatMap mtV).length=4*l.length:=by
   clear h h1 h2 h3 h4 hD hok hl hgb
   induction l with
   | nil=>rfl
   | cons p l ih=>rw [List.flatMap_cons,List.length_append,ih,List.length_cons];show 4+_=_;omega
  have:=rep_of_row (M:=M) (b:=g) (off:=0) (cap:=cap) (k:=4) (l:=l.map Mt.c) (fun x hx=>by obtain ⟨p,_,rfl⟩:=List.mem_map.1 hx;rfl) (hD l hok) (fun i hi=>by
   rw [Nat.zero_add]
   simp only [World.cell?,hgb]
   rw [← h4] at hi ⊢
   rw [List.length_take] at hi
   rw [List.getElem?_take_of_lt (by omega)]
   simp) (by rw [hl];exact h1) (by unfold maxLen at h2;omega) (fun h=>by have:=hM g h;omega) (Array.getElem?_eq_some_iff.1 hgb).1
  rw [hl] at this
  exact this
def RdS (w:World) (ms:List Mt) (W:World):Prop :=
 (∃ v,W.heap[w.heap.size]? = some (.cells (rpC rp0 v) 28 (0,0))∧W.ownsRow (w.heap.size+4) 31 4 v ms.length (ms.flatMap mtV))∧(∀ m∈ms,mtIn m)∧Boxed W (w.heap.size+1) 4 (.bool false)∧w.heap.size+4≤W.heap.size∧Below w.heap.size w W
def RdI (w:World) (t:List Str) (pre:List Nat) (W:World):Prop :=
 ∃ ms,pre=List.range ms.length∧3*ms.length≤t.length∧(rdMq t).1=ms++(rdMq (t.drop (3*ms.length))).1∧(rdMq t).2=(rdMq (t.drop (3*ms.length))).2∧RdS w ms W
def RdX (w:World) (t:List Str) (W:World):Prop:=(rdMq t).2=false∧RdS w (rdMq t).1 W
theorem rdS_keep {w:World} {ms:List Mt} {A B:World} {row:Option Nat} (h:RdS w ms A) (hg:A.grownBy B row)
  (hr:∀ r,row=some r→(r=w.heap.size+2∨r=w.heap.size+3)∨(w.heap.size+4≤r∧∃ o:Obj,A.heap[r]? = some o∧o.isCells=false)):RdS w ms B:=by
 obtain ⟨⟨v,h4,h5⟩,h3,h7,h8,h9⟩:=h
 have kp:∀ {k:Nat} {o:Obj},k<w.heap.size+2→A.heap[k]? = some o→B.heap[k]? = some o:=fun {k o} hk ho=>(hg.block k (Array.getElem?_eq_some_iff.1 ho).1 fun e=>by
  rcases hr k e.symm with h|⟨h,_⟩<;>omega).trans ho
 refine ⟨⟨v,kp (by omega) h4,h5.kept hg ?_⟩,h3,kp (by omega) h7,Nat.le_trans h8 hg.size,below_row h9 (by omega) hg fun r e=>by rcases hr r e with h|⟨h,_⟩<;>omega⟩
 rcases h5.2 with ⟨rfl,_⟩|⟨g,cap,cur,rfl,hb,hgb,_⟩
 ·exact .inl rfl
 ·refine .inr fun e' => ?_
  have e2:row=some g:=by simpa [Value.ownBlock] using e'.symm
  rcases hr g e2 with h|⟨_,o,ho,hc⟩
  ·omega
  ·rw [hgb] at ho;cases ho;cases hc
theorem rep_chunk {W:World} {M:Nat→Prop} {t:List Str} {b o c k:Nat} (h:Rep W M (strs t) (.slice (some ⟨b,o,none⟩) t.length c)) (hk:3*k<t.length) (hc:t.length≤c):Rep W M (strs ((t.drop (3*k)).take 3)) (chk3 b o t.length k):=by
 have hl:(t.map fun s=>[str s]).length=t.length:=List.length_map ..
 rw [← hl] at h
 obtain ⟨m,hm⟩:∃ m,m=min 3 (t.length-3*k):=⟨_,rfl⟩
 have:=rep_sub h (p:=3*k) (q:=3*k+m) (m:=3*k+m) (by omega) (by rw [hl];omega) (Nat.le_refl _) (by omega)
 rw [if_neg (by omega),Nat.add_sub_cancel_left] at this
 unfold chk3
 rw [← hm]
 have e:((t.map fun s=>[str s]).take (3*k+m)).drop (3*k)=((t.drop (3*k)).take 3).map fun s=>[str s]:=by
  rw [List.drop_take,Nat.add_sub_cancel_left,List.map_take,List.map_drop]
  rcases Nat.lt_or_ge (t.length-3*k) 3 with h3|h3
  ·rw [List.take_of_length_le (by rw [List.length_drop,hl];omega),List.take_of_length_le (by rw [List.length_drop,hl];omega)]
  ·rw [show m=3 by omega]
 rw [e] at this
 have e2:(some (⟨b,o,none⟩:Addr)).map (·.add (3*k*1))=some ⟨b,o+3*k,none⟩:=by rw [Nat.mul_one,Option.map_some,Sx.add_plain]
 rw [e2] at this
 exact this
end Go.Proofs.YtfkfficabeclcaaGreatDoor
