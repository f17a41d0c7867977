import Derived.Test.YtfkfficabeclcaaGreatDoorGLTRanksAR
import Derived.Deep.RegionLaw
import Derived.RangeFuncFrom
import Derived.RangeFuncLeaves
import Derived.WalkKit
import Derived.OwnWalkIn
import Derived.TacticsInMore
import Derived.RegionIn
import Derived.LoopNIn
import Derived.LoopIn
import Derived.RangeFuncCalls
import Derived.RangeFuncBox
import Derived.Test.YtfkfficabeclcaaGreatDoorGLTRanksAP
import Derived.Test.YtfkfficabeclcaaGreatDoorGLTRanksAQ
set_option linter.all false
namespace Go.Proofs.YtfkfficabeclcaaGreatDoor
open Go Go.RowKit Go.Sort Sx
end Go.Proofs.YtfkfficabeclcaaGreatDoor

namespace Go.Proofs.YtfkfficabeclcaaGreatDoor
open Go Go.RowKit Go.Sort Sx
end Go.Proofs.YtfkfficabeclcaaGreatDoor

namespace Go.Proofs.YtfkfficabeclcaaGreatDoor
open Go Go.RowKit Go.Sort Sx
end Go.Proofs.YtfkfficabeclcaaGreatDoor

namespace Go.Proofs.YtfkfficabeclcaaGreatDoor
open Go Go.RowKit Go.Sort Sx
structure KeepT (n0:Nat) (W W':World):Prop where
 size:W.heap.size≤W'.heap.size
 low:∀ k,k<n0→W'.heap[k]? = W.heap[k]?
 pt:∀ (k:Nat) (cs:Array Value) (T:TypeId) (fr:Nat × Nat),W.heap[k]? = some (Obj.cells cs T fr)→(T=43∨T=39)→W'.heap[k]? = W.heap[k]?
theorem KeepT.refl (n0:Nat) (W:World):KeepT n0 W W:=⟨Nat.le_refl _,fun _ _=>rfl,fun _ _ _ _ _ _=>rfl⟩
theorem KeepT.trans {n0:Nat} {A B C:World} (h:KeepT n0 A B) (k:KeepT n0 B C):KeepT n0 A C :=
 ⟨Nat.le_trans h.size k.size,fun i hi=>(k.low i hi).trans (h.low i hi),fun i cs T fr hi hT=>by
  have e:=h.pt i cs T fr hi hT
  exact (k.pt i cs T fr (e.trans hi) hT).trans e⟩
theorem KeepT.alloc {n0:Nat} (W:World) (o:Obj) (hn:n0≤W.heap.size):KeepT n0 W (W.alloc o) :=
 ⟨by simp,fun k hk=>Below.heap_alloc W o k (by omega),fun k cs T fr h _=>Below.heap_alloc W o k (Array.getElem?_eq_some_iff.1 h).1⟩
def Pt.v (p:Pt):Value:=.agg #[.int .i64 p.id,.int .i64 p.a,.int .i64 p.b]
def pairsOf:List Pt→List (Pt × Pt)
 | []=>[]
 | p::l=>l.map (fun q=>(p,q))++pairsOf l
def preP:List Pt→Nat→List (Pt × Pt)
 | _,0=>[]
 | [],_=>[]
 | p::l,i+1=>l.map (fun q=>(p,q))++preP l i
theorem preP_succ:∀ {l:List Pt} {i:Nat} (h:i<l.length),preP l (i+1)=preP l i++(l.drop (i+1)).map (fun q=>(l[i],q))
 | p::l,0,h=>by cases l<;>simp [preP]
 | p::l,i+1,h=>by
  have ih:=preP_succ (l:=l) (i:=i) (by simpa using h)
  rw [preP,ih,preP]
  simp
theorem preP_all:∀ (l:List Pt),preP l l.length=pairsOf l
 | []=>rfl
 | p::l=>by rw [List.length_cons,preP,pairsOf,preP_all l]
theorem preP_split:∀ {l:List Pt} {i:Nat},i≤l.length→pairsOf l=preP l i++pairsOf (l.drop i)
 | l,0,_=>by cases l<;>simp [preP]
 | [],_+1,h=>by simp at h
 | p::l,i+1,h=>by
  have:=preP_split (l:=l) (i:=i) (by simpa using h)
  simp only [preP,pairsOf,List.drop_succ_cons,List.append_assoc,← this]
theorem preP_in {l:List Pt} {i j:Nat} (hi:i<l.length) (hj:i+1+j<l.length):∃ post,(preP l i++((l.drop (i+1)).take j).map (fun q=>(l[i],q)))++(l[i],l[i+1+j])::post=pairsOf l:=by
 refine ⟨(l.drop (i+1+j+1)).map (fun q=>(l[i],q))++pairsOf (l.drop (i+1)),?_⟩
 have e1:=preP_split (l:=l) (i:=i) (by omega)
 have e2:l.drop i=l[i]::l.drop (i+1):=List.drop_eq_getElem_cons hi
 have e3:l.drop (i+1)=(l.drop (i+1)).take j++l[i+1+j]::l.drop (i+1+j+1):=by
  conv=>lhs;rw [← List.take_append_drop j (l.drop (i+1)),List.drop_drop,List.drop_eq_getElem_cons hj]
 have e4:(l.drop (i+1)).map (fun q=>(l[i],q))=((l.drop (i+1)).take j).map (fun q=>(l[i],q))++(l[i],l[i+1+j])::(l.drop (i+1+j+1)).map (fun q=>(l[i],q)):=by
  conv=>lhs;rw [e3]
  rw [List.map_append,List.map_cons]
 rw [e1,e2,pairsOf,e4]
 simp only [List.append_assoc,List.cons_append]
def SeqAll {α:Type} (n:Nat) (P:Program) (g:Nat) (lb:Array Value) (encs:α→Array Value) (Kp:World→World→Prop) (xs:List α) (w:World):Prop :=
 ∀ (lp:Nat) (J:List α→World→Prop) (W:World),Below w.heap.size w W→AbidesFrom W.heap.size J →
  (∀ pre x post W1,pre++x::post=xs→J pre W1→YieldAt Fence.wide (n-1) P lp (encs x) W1 fun e W'=>e=.returned (.bool true)∧J (pre++[x]) W'∧Kp W1 W')→J [] W →
  CallsIn Fence.wide n P g (#[.func (.yield lp) #[] #[]]++lb) W fun e W'=>(∃ v,e=.returned v)∧J xs W'
set_option maxRecDepth 100000 in
set_option maxHeartbeats 4000000 in
theorem pairs1_stops (l:List Pt) (n0 n c:Nat) (fv:Value) (w:World) (hl:l.length≤1000) (hbox:w.heap[c]? = some (.cells #[fv] 39 (0,0))) (hrep:Rep w (fun b=>n0≤b) (.list 3 (l.map Pt.c)) fv) (hn0:n0≤w.heap.size) (hn:1≤n) :
  SeqAll n Tryz.prog 237 #[.pointer (some ⟨c,0,none⟩)] (fun pq:Pt × Pt=>#[pq.1.v,pq.2.v]) (KeepT n0) (pairsOf l) w:=fun lp J W hbel hJ hY h0=>by
 have hcw:c<w.heap.size:=(Array.getElem?_eq_some_iff.1 hbox).1
 have hKW:∀ {k},k<w.heap.size→W.heap[k]? = w.heap[k]? := fun hk=>hbel.block _ hk
 have hbx:∀ {W':World},KeepT n0 W W'→W'.cell? ⟨c,0,none⟩=some fv:=fun hk=>by
  have e:=(hk.pt c _ _ _ ((hKW hcw).trans hbox) (.inr rfl)).trans ((hKW hcw).trans hbox)
  simp [World.cell?,e]
 generalize hd:D.list 3 (l.map Pt.c)=d at hrep
 cases hrep with
 | nil k x cp hm hx =>
  injection hd with hk hd
  subst hk
  have hl0:l=[]:=List.map_eq_nil_iff.1 hd
  subst hl0
  have hb0:=hbx (KeepT.refl n0 W)
  refine callsIn_of_wp Tryz.func237 rfl trivial ?_ rfl
  simp only [Tryz.ntmps237,List.size_toArray,List.length_cons,List.length_nil,Nat.reduceAdd,Nat.reduceSub,Array.replicate_succ,Array.replicate_zero,List.push_toArray,List.append_toArray,List.nil_append,List.cons_append]
  gi_wp2
  gi_loopw [10] (fun x W'=>x=.int .i64 0∧W'=W) (fun _ _=>0)
  case atStart=>exact ⟨rfl,rfl⟩
  case round =>
   obtain ⟨rfl,rfl⟩:=hrel
   gi_wp2
   go_end0
   exact ⟨⟨_,rfl⟩,h0⟩
 | @list b off cap k ll vs h1 h2 h3 h4 h5 h6 h7 =>
  injection hd with hk hd
  subst hk hd
  have hll:(l.map Pt.c).length=l.length:=List.length_map ..
  rw [hll] at h1 hbx
  have h3:b<n0:=Nat.lt_of_not_le h3
  have cell:∀ {W':World},KeepT n0 W W'→∀ (i:Nat) (h:i<l.length),W'.cell? ⟨b,off+i*3,none⟩=some (.int .i64 l[i].id)∧W'.cell? ⟨b,off+(i*3+1),none⟩=some (.int .i64 l[i].a)∧W'.cell? ⟨b,off+(i*3+2),none⟩=some (.int .i64 l[i].b):=fun {W'} hk i h=>by
   have hi:i<(l.map Pt.c).length:=by rw [hll];exact h
   have e:W'.heap[b]? = w.heap[b]? := (hk.low b h3).trans (hKW h4)
   have key:∀ (j:Nat) (v:Value) (hj:j<3),(l.map Pt.c)[i][j]'(by rw [h5 _ (List.getElem_mem hi)];exact hj)=.v v→W'.cell? ⟨b,off+(i*3+j),none⟩=some v:=fun j v hj hv=>by
    rw [World.cell?_of_block (w:=w) e,← Nat.add_assoc,h6 i j hi hj]
    have:=h7 i j hi (by rw [h5 _ (List.getElem_mem hi)];exact hj)
    rw [hv] at this
    cases this;rfl
   refine ⟨by have:=key 0 (.int .i64 l[i].id) (by omega) (by simp [Pt.c]);rwa [Nat.add_zero] at this,key 1 _ (by omega) (by simp [Pt.c]),key 2 _ (by omega) (by simp [Pt.c])⟩
  have hb0:=hbx (KeepT.refl n0 W)
  clear h6 h7
  refine callsIn_of_wp Tryz.func237 rfl trivial ?_ rfl
  simp only [Tryz.ntmps237,List.size_toArray,List.length_cons,List.length_nil,Nat.reduceAdd,Nat.reduceSub,Array.replicate_succ,Array.replicate_zero,List.push_toArray,List.append_toArray,List.nil_append,List.cons_append]
  gi_wp2
  gi_loopw [10] (fun x W'=>∃ i:Nat,x=.int .i64 i∧i≤l.length∧KeepT n0 W W'∧J (preP l i) W') (fun x _=>l.length-(intOf x).toNat)
  case atStart=>exact ⟨0,rfl,Nat.zero_le _,KeepT.refl n0 W,by cases l<;>exact h0⟩
  case round =>
   obtain ⟨i,rfl,hi,hkt,hJi⟩:=hrel
   obtain ⟨wo,hwo⟩:∃ wo,wo=wr:=⟨_,rfl⟩
   subst hwo
   rcases Nat.lt_or_ge i l.length with hlt|hge
   ·obtain ⟨q0,q1,q2⟩:=cell hkt i hlt
    have hb1:=hbx hkt
    have hsz:n0≤wo.heap.size:=Nat.le_trans (Nat.le_trans hn0 hbel.size) hkt.size
    have hk2:=hkt.trans (KeepT.alloc wo (.cells #[.int .i64 l[i].id,.int .i64 l[i].a,.int .i64 l[i].b] 43) hsz)
    have hb2:=hbx hk2
    have hw1:IntKind.i64.wrap ((i:Int)+1)=(i:Int)+1:=by rw [IntKind.wrap_i64];omega
    have hp1:(0:Int)≤(i:Int)+1:=by omega
    have hp2:((i:Int)+1).toNat=i+1:=by omega
    have hp3:(i:Int)+1≤(l.length:Int):=by omega
    have hp4:i+1≤l.length:=by omega
    have hgr:wo.grownBy (wo.alloc (.cells #[.int .i64 l[i].id,.int .i64 l[i].a,.int .i64 l[i].b] 43)) none:=World.grownBy_alloc wo _ none
    have hJ2:=hJ _ _ _ none hJi hgr (fun r e=>by cases e)
    have hpb:(wo.alloc (.cells #[.int .i64 l[i].id,.int .i64 l[i].a,.int .i64 l[i].b] 43)).heap[wo.heap.size]? = some (.cells #[.int .i64 l[i].id,.int .i64 l[i].a,.int .i64 l[i].b] 43 (0,0)):=World.alloc_heap_new wo _
    by_cases hcap:cap=i+1
    ·have hz:l.length-(i+1)=0:=by omega
     gi_wp2
     gi_loopw [21] (fun x W'=>x=.int .i64 0∧W'=wo.alloc (.cells #[.int .i64 l[i].id,.int .i64 l[i].a,.int .i64 l[i].b] 43)) (fun _ _=>0)
     case atStart=>exact ⟨rfl,rfl⟩
     case round =>
      obtain ⟨rfl,rfl⟩:=hrel
      gi_wp2
      go_roundw
      case rel=>exact ⟨i+1,by simp,hlt,hk2,by rw [preP_succ hlt,List.drop_eq_nil_of_le (by omega),List.map_nil,List.append_nil];exact hJ2⟩
      case measure=>show l.length-((i:Int)+1).toNat<l.length-((i:Int)).toNat;omega
    ·gi_wp2
     generalize hW2:wo.alloc (.cells #[.int .i64 l[i].id,.int .i64 l[i].a,.int .i64 l[i].b] 43)=W2 at *
     gi_loopw [21] (fun x W'=>∃ j:Nat,x=.int .i64 j∧j≤l.length-(i+1)∧KeepT n0 W2 W'∧J (preP l i++((l.drop (i+1)).take j).map (fun q=>(l[i],q))) W') (fun x _=>l.length-(i+1)-(intOf x).toNat)
     case atStart=>exact ⟨0,rfl,Nat.zero_le _,KeepT.refl n0 W2,by rw [List.take_zero,List.map_nil,List.append_nil];exact hJ2⟩
     case round =>
      obtain ⟨j,rfl,hj,hk3,hJ3⟩:=hrel
      have hsz3:n0≤wr.heap.size:=Nat.le_trans (Nat.le_trans hsz (by rw [← hW2];simp)) hk3.size
      rcases Nat.lt_or_ge j (l.length-(i+1)) with hjl|hjg
      ·have hij:i+1+j<l.length:=by omega
       obtain ⟨r0,r1,r2⟩:=cell (hk2.trans hk3) (i+1+j) hij
       obtain ⟨q,hq⟩:∃ q,l[i+1+j]=q:=⟨_,rfl⟩
       rw [hq] at r0 r1 r2
       have eo:(i+1+j)*3=(i+1)*3+j*3:=by rw [Nat.add_mul]
       rw [eo] at r0 r1 r2
       rw [Nat.add_assoc ((i+1)*3)] at r1 r2
       have hpb3:=(hk3.pt _ _ _ _ hpb (.inl rfl)).trans hpb
       have hpw:wo.heap.size<wr.heap.size:=(Array.getElem?_eq_some_iff.1 hpb3).1
       have hk4:=hk3.trans (KeepT.alloc wr (.cells #[.int .i64 q.id,.int .i64 q.a,.int .i64 q.b] 43) hsz3)
       have hJ4:=hJ _ _ _ none hJ3 (World.grownBy_alloc wr (.cells #[.int .i64 q.id,.int .i64 q.a,.int .i64 q.b] 43) none) (fun r e=>by cases e)
       have hpb4:=(hk4.pt _ _ _ _ hpb (.inl rfl)).trans hpb
       have p0:(wr.alloc (.cells #[.int .i64 q.id,.int .i64 q.a,.int .i64 q.b] 43)).cell? ⟨wo.heap.size,0,none⟩=some (.int .i64 l[i].id):=by simp only [World.cell?,hpb4];rfl
       have p1:(wr.alloc (.cells #[.int .i64 q.id,.int .i64 q.a,.int .i64 q.b] 43)).cell? ⟨wo.heap.size,1,none⟩=some (.int .i64 l[i].a):=by simp only [World.cell?,hpb4];rfl
       have p2:(wr.alloc (.cells #[.int .i64 q.id,.int .i64 q.a,.int .i64 q.b] 43)).cell? ⟨wo.heap.size,2,none⟩=some (.int .i64 l[i].b):=by simp only [World.cell?,hpb4];rfl
       obtain ⟨post,hpost⟩:=preP_in hlt hij
       rw [hq] at hpost
       obtain ⟨fn,tmps,assign,body,hy,hR⟩:=hY _ (l[i],q) post _ hpost hJ4
       dsimp only [Pt.v] at hy
       gi_wp2
       refine hR.mono ?_
       rintro e W3 ⟨rfl,hJ5,hk5⟩
       ·gi_wp2
        go_roundw
        case rel =>
         refine ⟨j+1,by simp,hjl,hk4.trans hk5,?_⟩
         rw [List.append_assoc] at hJ5
         have:((l.drop (i+1)).take (j+1)).map (fun q=>(l[i],q))=((l.drop (i+1)).take j).map (fun q=>(l[i],q))++[(l[i],q)]:=by
          rw [List.take_succ_eq_append_getElem (by rw [List.length_drop];exact hjl),List.map_append,List.getElem_drop,hq];rfl
         rw [this];exact hJ5
        case measure=>show l.length-(i+1)-((j:Int)+1).toNat<l.length-(i+1)-((j:Int)).toNat;omega
      ·have hje:j=l.length-(i+1):=by omega
       gi_wp2
       go_roundw
       case rel =>
        refine ⟨i+1,by simp,hlt,hk2.trans hk3,?_⟩
        rw [List.take_of_length_le (by rw [List.length_drop];omega)] at hJ3
        rw [preP_succ hlt];exact hJ3
       case measure=>show l.length-((i:Int)+1).toNat<l.length-((i:Int)).toNat;omega
   ·obtain rfl:i=l.length:=by omega
    gi_wp2
    go_end0
    exact ⟨⟨_,rfl⟩,by rw [← preP_all l];exact hJi⟩
 | _=>cases hd
end Go.Proofs.YtfkfficabeclcaaGreatDoor

namespace Go.Proofs.YtfkfficabeclcaaGreatDoor
open Go Go.RowKit Go.Sort Sx
theorem KeepT.putObj {n0:Nat} {W:World} {l:Nat} {o:Obj} (o':Obj) (hn:n0≤l) (hl:W.heap[l]? = some o) (ho:o.isCells=false):KeepT n0 W (W.putObj l o') :=
 ⟨by simp,fun k hk=>World.putObj_heap_other (by omega),fun k cs T fr h _=>World.putObj_heap_other fun e=>by
  subst e;rw [hl] at h;injection h with h;subst h;cases ho⟩
theorem wpIn_rangeAll {P:Program} {α:Type} {g:Operand} {ps:Array Tmp} {assign body:Code} {Q:Exit→Act→World→Prop} {a:Act} {w w0:World} {n n0:Nat} (h1:1≤n) {gf:Nat} {lb:Array Value} (hg:a.eval g=.func (.func gf) #[] lb)
  (eg:∀ args w,(callFunc gf args).run P w=.ok (.enter gf args) w) {encs:α→Array Value} {xs:List α} (hseq:SeqAll (n-1) P gf lb encs (KeepT n0) xs w0) (hb0:Below w0.heap.size w0 w) (hn0:n0≤w.heap.size) (hps:∀ x,(encs x).size=ps.size)
  (I:List α→World→Prop) (hI:OwnFrom w.heap.size I) (h0:I [] w) (As:List α→α→Act→World→Prop) (hAs:∀ x a₁,OwnFrom w.heap.size fun pre W=>As pre x a₁ W)
  (hassign:∀ (lp:Nat) (pre:List α) (x:α) (W:World),x∈xs→pre.length<xs.length→I pre W→assign.wpIn (Fence.wide.inRound lp) (n-1-1) P (Exit.then (fun a₁ W1=>KeepsOthers W W1∧KeepT n0 W W1∧As pre x a₁ W1) (fun _ _ _=>False)) { tmps:=(ps.zip (encs x)).foldl (fun t (p,v)=>t.setIfInBounds p v) a.tmps,defers:=[] } W)
  (hbody:∀ (lp:Nat) (pre:List α) (x:α) (a₁:Act) (W:World),As pre x a₁ W→body.wpIn (Fence.wide.inRound lp) (n-1-1) P (fun ex _ W'=>ex=.normal∧KeepsOthers W W'∧KeepT n0 W W'∧I (pre++[x]) W') a₁ W)
  (hdone:∀ (D:Nat) (W:World),w.heap.size≤D→I xs W→W.heap[D]? = some (.deferred (some []))→Q .normal { a with defers:={ target:=.collected D,args:=#[] }::a.defers } W) :
  (Code.rangeFunc g ps assign body).wpIn Fence.wide n P Q a w:=by
 refine wpIn_rangeFunc fun fn hfn => ?_
 obtain ⟨L,hL⟩:∃ L:LoopState→Option Code→Obj,L=fun st pe=>.loop { state:=st,pending:=pe,fn,tmps:=a.tmps,params:=ps,assign,body,defers:=w.heap.size }:=⟨_,rfl⟩
 have hLc:∀ st pe,(L st pe).isCells=false:=fun st pe=>by rw [hL];rfl
 have hLw:∀ st pe,(L st pe).isWalk=false:=fun st pe=>by rw [hL];rfl
 obtain ⟨W1,hW1⟩:∃ W1,W1=(w.alloc (.deferred (some []))).alloc (L .ready none):=⟨_,rfl⟩
 have s1:W1.heap.size=w.heap.size+2:=by rw [hW1];simp
 have g1:W1.heap[w.heap.size+1]? = some (L .ready none):=by rw [hW1];have:=World.alloc_heap_new (w.alloc (.deferred (some []))) (L .ready none);rwa [World.size_alloc] at this
 have g2:W1.heap[w.heap.size]? = some (.deferred (some [])):=by rw [hW1];exact (Below.heap_alloc _ _ _ (by simp)).trans (World.alloc_heap_new w _)
 have i1:I [] W1:=by rw [hW1];exact hI.alloc _ (hI.alloc _ h0)
 have b1:Below w0.heap.size w0 W1:=by
  rw [hW1];exact hb0.trans ((((Below.refl _ w).alloc (Nat.le_refl _) _).alloc (by simp) _).mono hb0.size)
 refine ⟨w.heap.size+1,[{ target:=.collected w.heap.size,args:=#[] }],W1,{ target:=.fn (.func gf) lb,args:=#[.func (.yield (w.heap.size+1)) #[] #[]] },W1,gf,#[.func (.yield (w.heap.size+1)) #[] #[]]++lb,W1,?_,?_,fun f' _=>trivial,?_,fun _=>h1,?_⟩
 ·have:=run_enterLoop_outer (P:=P) (w:=w) fn a.tmps ps assign body
  rw [hW1,hL];exact this
 ·simp only [resolve,hg];simp [go_sem]
 ·simp [invoke,go_sem,eg]
 have keep:∀ {A B:World} {row:Option Nat},A.grownBy B row→(∀ r,row=some r→W1.heap.size≤r)→∀ k o,k<W1.heap.size→A.heap[k]? = some o→B.heap[k]? = some o:=fun hg hr k o hk h =>
  (hg.block k (Array.getElem?_eq_some_iff.1 h).1 fun e=>by have:=hr k e.symm;omega).trans h
 refine (hseq (w.heap.size+1) (fun pre W=>I pre W∧W.heap[w.heap.size+1]? = some (L .ready none)∧W.heap[w.heap.size]? = some (.deferred (some []))) W1 b1
  (fun s A B row hs hg' hr=>⟨hI s A B row hs.1 hg' (fun r e=>⟨by have:=(hr r e).1;omega,by obtain ⟨_,o,h2,h3⟩:=hr r e;exact ⟨o,h2,Obj.not_cells_of_walk h3⟩⟩),keep hg' (fun r e=>(hr r e).1) _ _ (by omega) hs.2.1,keep hg' (fun r e=>(hr r e).1) _ _ (by omega) hs.2.2⟩)
  ?_ ⟨i1,g1,g2⟩).mono ?_
 ·rintro pre x post W hpost ⟨hi,hl,hk⟩
  have hxs:x∈xs:=by rw [← hpost];simp
  have hpl:pre.length<xs.length:=by rw [← hpost];simp
  have hlw:w.heap.size+1<W.heap.size:=(Array.getElem?_eq_some_iff.1 hl).1
  have hl':W.heap[w.heap.size+1]? = some (.loop { state:=.ready,pending:=none,fn,tmps:=a.tmps,params:=ps,assign,body,defers:=w.heap.size }):=by rw [hl,hL]
  have hy:=run_yield (P:=P) (args:=encs x) hl' (hps x)
  refine ⟨fn,_,assign,body,hy,roundIn_of_wpIn hfn (wpIn_mono (hassign _ pre x W hxs hpl hi) ?_)⟩
  rintro e a₁ W2 hp
  cases e with
  | normal =>
   obtain ⟨k1,k2,k3⟩:=hp
   have hl2:=k1.same _ _ hl (hLc _ _)
   have hk2:=k1.same _ _ hk rfl
   have hl2':W2.heap[w.heap.size+1]? = some (.loop { state:=.ready,pending:=none,fn,tmps:=a.tmps,params:=ps,assign,body,defers:=w.heap.size }):=by rw [hl2,hL]
   have hb:=run_beginRound (P:=P) hl2' rfl
   obtain ⟨W3,hW3⟩:∃ W3,W3=W2.putObj (w.heap.size+1) (L .busy none):=⟨_,rfl⟩
   have hl3:W3.heap[w.heap.size+1]? = some (L .busy none):=by rw [hW3];exact World.putObj_heap_same (Array.getElem?_eq_some_iff.1 hl2).1
   have hk3:W3.heap[w.heap.size]? = some (.deferred (some [])):=by rw [hW3];exact (World.putObj_heap_other (by omega)).trans hk2
   have ka3:As pre x a₁ W3:=by rw [hW3];exact (hAs x a₁).putObj _ k3 (by omega) hl2 (hLc _ _)
   have kt3:KeepT n0 W W3:=k2.trans (by rw [hW3];exact KeepT.putObj _ (by omega) hl2 (hLc _ _))
   refine ⟨W3,by rw [hW3,hL];exact hb,wpIn_mono (hbody _ pre x a₁ W3 ka3) ?_⟩
   rintro e a₂ W4 ⟨rfl,q1,q2,q3⟩
   have hl4:=q1.same _ _ hl3 (hLc _ _)
   have hk4:=q1.same _ _ hk3 rfl
   have hl4':W4.heap[w.heap.size+1]? = some (.loop { state:=.busy,pending:=none,fn,tmps:=a.tmps,params:=ps,assign,body,defers:=w.heap.size }):=by rw [hl4,hL]
   have he:=run_endRound (P:=P) none hl4'
   refine ⟨_,_,he,rfl,⟨hI.putObj _ q3 (by omega) hl4 (hLc _ _),?_,(World.putObj_heap_other (by omega)).trans hk4⟩,(kt3.trans q2).trans (KeepT.putObj _ (by omega) hl4 (hLc _ _))⟩
   rw [World.putObj_heap_same (Array.getElem?_eq_some_iff.1 hl4).1,hL];rfl
  | ret=>exact hp.elim
  | exit id=>exact hp.elim
  | goto t=>exact hp.elim
  | panic ch=>exact hp.elim
  | outgrown=>exact hp.elim
 ·rintro e W2 ⟨⟨v,rfl⟩,hi,hl,hk⟩
  have hl':W2.heap[w.heap.size+1]? = some (.loop { state:=.ready,pending:=none,fn,tmps:=a.tmps,params:=ps,assign,body,defers:=w.heap.size }):=by rw [hl,hL]
  exact ⟨none,_,run_endLoop (P:=P) hl' (by simp),hdone _ _ (Nat.le_refl _) (hI.putObj _ hi (by omega) hl (hLc _ _)) ((World.putObj_heap_other (by omega)).trans hk)⟩
theorem mpairs_in (n:Nat) (fv:Value) (w:World) (h1:fv.oneCell'=true):CallsIn Fence.wide n Tryz.prog 202 #[.agg #[fv]] w fun e w'=>e=.returned (.func (.func 237) #[] #[.pointer (some ⟨w.heap.size,0,none⟩)])∧w'=w.alloc (.cells #[fv] 39):=by
 refine callsIn_of_wp Tryz.func202 rfl trivial ?_ rfl
 simp only [Tryz.ntmps202,List.size_toArray,List.length_cons,List.length_nil,Nat.reduceAdd,Nat.reduceSub,Array.replicate_succ,Array.replicate_zero,List.push_toArray,List.append_toArray,List.nil_append,List.cons_append]
 gi_wp2
 first|go_ret|refine bodyPost_ret (results_tmp rfl _ _ _) rfl ?_|refine bodyPost_end (results_tmp rfl _ _ _) rfl ?_
 exact ⟨rfl,rfl⟩
end Go.Proofs.YtfkfficabeclcaaGreatDoor

namespace Go.Proofs.YtfkfficabeclcaaGreatDoor
open Go Go.RowKit Go.Sort Sx
def meet1 (pq:Pt × Pt):Option Mt :=
 let v:=meetV pq.1.id pq.1.a pq.1.b pq.2.id pq.2.a pq.2.b
 if v.2.2=0 then some ⟨v.1,v.2.1,pq.1.id,pq.2.id⟩ else none
def Mt.vals (m:Mt):List Value:=[.int .i64 m.n,.int .i64 m.d,.int .i64 m.i,.int .i64 m.j]
def outs (l:List (Pt × Pt)):List Mt:=l.filterMap meet1
theorem outs_snoc (l:List (Pt × Pt)) (x:Pt × Pt):outs (l++[x])=outs l++(meet1 x).toList:=by
 unfold outs;rw [List.filterMap_append];congr 1
abbrev OutI (w:World) (pre:List (Pt × Pt)) (W:World):Prop :=
 (∃ v,Boxed W (w.heap.size+1) 26 v∧W.ownsRow w.heap.size 31 4 v (outs pre).length ((outs pre).flatMap Mt.vals)∧True)∧Below w.heap.size w W
def OutA (w:World) (T:Array Value) (pre:List (Pt × Pt)) (x:Pt × Pt) (a:Act) (W:World):Prop :=
 (WDC x.1.dc∧WDC x.2.dc∧pre.length≤10000)∧OutI w pre W∧∃ bp bq,a={ tmps:=T.setIfInBounds 10 x.1.v |>.setIfInBounds 11 x.2.v |>.setIfInBounds 4 (.pointer (some ⟨bp,0,none⟩)) |>.setIfInBounds 5 (.pointer (some ⟨bq,0,none⟩)),defers:=[] } ∧
  W.heap[bp]? = some (.cells #[.int .i64 x.1.id,.int .i64 x.1.a,.int .i64 x.1.b] 43 (0,0))∧W.heap[bq]? = some (.cells #[.int .i64 x.2.id,.int .i64 x.2.a,.int .i64 x.2.b] 43 (0,0))∧w.heap.size≤bp∧w.heap.size≤bq
theorem outI_from (w:World) (B:Nat) (hB:w.heap.size≤B):OwnFrom B (OutI w) :=
 ((holdsRow_own w.heap.size (w.heap.size+1) 26 31 4 (fun pre=>(outs pre).length) (fun pre=>(outs pre).flatMap Mt.vals) (fun _ _=>True)).from B).and (ownFrom_below (Nat.le_refl _) hB)
theorem outA_from (w:World) (T:Array Value) (B:Nat) (hB:w.heap.size≤B) (x:Pt × Pt) (a:Act):OwnFrom B (fun pre W=>OutA w T pre x a W):=by
 rintro pre W W' row ⟨h0,h1,bp,bq,h2,h3,h4,h5,h6⟩ hg hr
 have keep:∀ {k:Nat} {cs:Array Value} {t:TypeId},W.heap[k]? = some (.cells cs t (0,0))→W'.heap[k]? = some (.cells cs t (0,0)):=fun {k cs t} h=>(hg.block k (Array.getElem?_eq_some_iff.1 h).1 fun e=>by
  obtain ⟨_,o,ho,hc⟩:=hr k e.symm
  rw [h] at ho;cases ho;cases hc).trans h
 exact ⟨h0,outI_from w B hB pre W W' row h1 hg hr,bp,bq,h2,keep h3,keep h4,h5,h6⟩
theorem kMeet_in {n lp:Nat} (p q:Pt) (w:World) (hg:Gd w) (hp:WDC p.dc) (hq:WDC q.dc):CallsIn (Fence.wide.inRound lp) n Tryz.prog 203 #[p.v,q.v] w fun e w'=>e=.returned (.tuple #[.agg #[.int .i64 (meetV p.id p.a p.b q.id q.a q.b).1,.int .i64 (meetV p.id p.a p.b q.id q.a q.b).2.1],.int .i64 (meetV p.id p.a p.b q.id q.a q.b).2.2])∧Below w.heap.size w w':=by
 refine CallsIn.inRound lp (callsIn_wide.2 ?_)
 exact calls_of_fn (P:=Tryz.prog) (fun _ _=>Tryz.call203 _ _) (args:=[p.dc,q.dc]) (vals:=[p.v,q.v]) rfl rfl ⟨hp,hq,trivial⟩ (kMeet_fn p.id p.a p.b q.id q.a q.b) w hg
theorem pairs_mem:∀ {l:List Pt} {p q:Pt},(p,q)∈pairsOf l→p∈l∧q∈l
 | [],p,q,h=>by simp [pairsOf] at h
 | x::l,p,q,h=>by
  simp only [pairsOf,List.mem_append,List.mem_map,Prod.mk.injEq] at h
  rcases h with ⟨y,hy,rfl,rfl⟩|h
  ·exact ⟨List.mem_cons_self ..,List.mem_cons_of_mem _ hy⟩
  ·obtain ⟨h1,h2⟩:=pairs_mem h
   exact ⟨List.mem_cons_of_mem _ h1,List.mem_cons_of_mem _ h2⟩
theorem pairs_len:∀ (l:List Pt),(pairsOf l).length≤l.length*l.length
 | []=>by simp [pairsOf]
 | x::l=>by
  have:=pairs_len l
  simp only [pairsOf,List.length_append,List.length_map,List.length_cons,Nat.add_mul,Nat.mul_add];omega
theorem outs_len (pre:List (Pt × Pt)):(outs pre).length≤pre.length:=List.length_filterMap_le ..
theorem KeepT.of_grownBy {n0:Nat} {W W':World} {row:Option Nat} (hg:W.grownBy W' row) (hr:∀ r,row=some r→n0≤r∧∃ cs T fr,W.heap[r]? = some (.cells cs T fr)∧T≠43∧T≠39) (hn:n0≤W.heap.size):KeepT n0 W W' :=
 ⟨hg.size,fun k hk=>hg.block k (by omega) fun e=>by have:=(hr k e.symm).1;omega,fun k cs T fr hk hT=>hg.block k (Array.getElem?_eq_some_iff.1 hk).1 fun e=>by
  obtain ⟨_,cs',T',fr',h1,h2,h3⟩:=hr k e.symm
  rw [hk] at h1;injection h1 with h1;injection h1 with _ h1 _
  subst h1
  rcases hT with h|h
  ·exact h2 h
  ·exact h3 h⟩
theorem grownBy_of_below {W W':World} (h:Below W.heap.size W W'):W.grownBy W' none:=⟨h.os,h.tape,h.output,h.size,fun k hk _=>h.block k hk⟩
theorem KeepT.of_below {n0:Nat} {W W':World} (h:Below W.heap.size W W') (hn:n0≤W.heap.size):KeepT n0 W W' :=
 ⟨h.size,fun k hk=>h.block k (by omega),fun k cs T fr hk _=>h.block k (Array.getElem?_eq_some_iff.1 hk).1⟩
theorem KeepsOthers.of_below {W W':World} (h:Below W.heap.size W W'):KeepsOthers W W' :=
 ⟨h.size,fun k o hk _=>(h.block k (Array.getElem?_eq_some_iff.1 hk).1).trans hk⟩
theorem box3 {W:World} {b:Nat} {x y z:Value} {t:TypeId} (h:W.heap[b]? = some (.cells #[x,y,z] t (0,0))):W.cell? ⟨b,0,none⟩=some x∧W.cell? ⟨b,1,none⟩=some y∧W.cell? ⟨b,2,none⟩=some z:=by
 refine ⟨?_,?_,?_⟩<;>simp [World.cell?,h]
theorem mt_ds {w:World} {M:Nat→Prop}:∀ {l:List Mt},(∀ m∈l,m.ok)→DsR w M (l.map Mt.c).flatten (l.flatMap Mt.vals)
 | [],_=>trivial
 | m::l,h=>by
  obtain ⟨h1,h2,h3,h4,h5⟩:=h m (List.mem_cons_self ..)
  have h6:=((chk_iff _ _).1 h1).1
  have ih:=mt_ds (w:=w) (M:=M) (l:=l) fun x hx=>h x (List.mem_cons_of_mem _ hx)
  rw [List.map_cons,List.flatten_cons,List.flatMap_cons]
  refine DsR.append ?_ ih
  have key:∀ x:Int,-9223372036854775808≤x∧x≤9223372036854775807→Rep w M (i64 x) (.int .i64 x):=fun x hx=>.v _ rfl hx
  exact ⟨key _ h2,key _ (by omega),key _ h4,key _ h5,trivial⟩
theorem row_of_owns {W:World} {n0:Nat} {v:Value} {l:List Mt} (h:W.ownsRow n0 31 4 v l.length (l.flatMap Mt.vals)) (hok:∀ m∈l,m.ok) :
  ∃ m:Nm,BlkR (fun _=>m) W (fun b=>0<m.cap∧b=m.b) m (.row 4 (l.map Mt.c) m.ver)∧(∃ x,v=.slice x m.len m.cap∧(0<m.cap→x=some ⟨m.b,0,none⟩))∧(0<m.cap→n0≤m.b∧∃ cs,W.heap[m.b]? = some (.cells cs 31 (0,0))):=by
 have hk:∀ x∈l.map Mt.c,x.length=4:=fun x hx=>by
  obtain ⟨m,_,rfl⟩:=List.mem_map.1 hx;rfl
 rcases h.2 with ⟨rfl,h0⟩|⟨g,cap,cur,rfl,hb,hgb,h1,h2,h3,h4⟩
 ·have hl0:l=[]:=List.eq_nil_of_length_eq_zero h0
  subst hl0
  exact ⟨⟨false,0,0,0,0⟩,⟨⟨by simp,rfl,fun _=>rfl,rfl,rfl⟩,fun h=>by simp [Blk.real] at h⟩,⟨none,rfl,fun h=>absurd h (Nat.lt_irrefl _)⟩,fun h=>absurd h (Nat.lt_irrefl _)⟩
 ·have hsz:cur.toList.length=cap*4:=by simpa using h3
  refine ⟨⟨false,g,cap,l.length,0⟩,⟨⟨hk,by simp,fun h => ?_,rfl,rfl⟩,fun _=>⟨cur.toList,⟨31,by simpa using hgb⟩,by simpa using h1,h2,hsz,l.flatMap Mt.vals,cur.toList.drop (l.length*4),?_,mt_ds hok⟩⟩,⟨_,rfl,fun _=>rfl⟩,fun _=>⟨hb,_,hgb⟩⟩
  ·have h:cap=0:=h
   have:l.length=0:=by omega
   rw [List.eq_nil_of_length_eq_zero this];rfl
  ·rw [← h4,List.take_append_drop]
theorem blk_flat {ρ:Nat→Nm} {w:World} {M M':Nat→Prop} {m:Nm} {k v:Nat} {l:List (List Sx.D)} (hf:flatL l.flatten=true) (h:BlkR ρ w M m (.row k l v)):BlkR ρ w M' m (.row k l v):=by
 refine ⟨h.1,fun hr => ?_⟩
 obtain ⟨cs,hc,c1,c2,c3,vs,rest,c4,c5⟩:=h.2 hr
 exact ⟨cs,hc,c1,c2,c3,vs,rest,c4,flatL_rel hf c5⟩
theorem zip2 (a b:Tmp) (x y:Value) (t:Array Value):((#[a,b]:Array Tmp).zip #[x,y]).foldl (fun t (p,v)=>t.setIfInBounds p v) t=(t.setIfInBounds a x).setIfInBounds b y:=by
 have e:(#[a,b]:Array Tmp).zip #[x,y]=#[(a,x),(b,y)]:=by apply Array.ext';simp
 rw [e];simp
theorem body_facts {n0 O bp bq k:Nat} {W W1:World} {p q:Pt} {v:Value} {xs:List Value} (mn md:Int) (hB1:Below W.heap.size W W1) (hWs:n0≤W.heap.size) (hbx:Boxed W O 26 v) (hrow:W.ownsRow n0 31 4 v k xs)
  (hp:W.heap[bp]? = some (.cells #[.int .i64 p.id,.int .i64 p.a,.int .i64 p.b] 43 (0,0))) (hq:W.heap[bq]? = some (.cells #[.int .i64 q.id,.int .i64 q.a,.int .i64 q.b] 43 (0,0))) :
  Boxed ((W1.alloc (.cells #[.int .i64 mn,.int .i64 md] 25))) O 26 v∧((W1.alloc (.cells #[.int .i64 mn,.int .i64 md] 25))).ownsRow n0 31 4 v k xs∧((W1.alloc (.cells #[.int .i64 mn,.int .i64 md] 25))).cell? ⟨O,0,none⟩=some v∧((W1.alloc (.cells #[.int .i64 mn,.int .i64 md] 25))).cell? ⟨bp,0,none⟩=some (.int .i64 p.id)∧((W1.alloc (.cells #[.int .i64 mn,.int .i64 md] 25))).cell? ⟨bq,0,none⟩=some (.int .i64 q.id) ∧
  (∀ (j:Nat) (u:Value),([.int .i64 mn,.int .i64 md,.int .i64 p.id,.int .i64 q.id]:List Value)[j]? = some u→(((W1.alloc (.cells #[.int .i64 mn,.int .i64 md] 25))).alloc (.cells #[.int .i64 mn,.int .i64 md,.int .i64 p.id,.int .i64 q.id] 31)).cell? ((⟨W1.heap.size+1,0,none⟩:Addr).add j)=some u) ∧
  n0≤(((W1.alloc (.cells #[.int .i64 mn,.int .i64 md] 25))).alloc (.cells #[.int .i64 mn,.int .i64 md,.int .i64 p.id,.int .i64 q.id] 31)).heap.size∧((W1.alloc (.cells #[.int .i64 mn,.int .i64 md] 25))).heap.size=W1.heap.size+1:=by
 have hg1:=grownBy_of_below (hB1.trans ((Below.refl _ W1).alloc hB1.size (.cells #[.int .i64 mn,.int .i64 md] 25)))
 have hbx2:Boxed ((W1.alloc (.cells #[.int .i64 mn,.int .i64 md] 25))) O 26 v:=hbx.kept hg1 (by simp)
 have hXs:((W1.alloc (.cells #[.int .i64 mn,.int .i64 md] 25))).heap.size=W1.heap.size+1:=by simp
 refine ⟨hbx2,hrow.kept hg1 (by cases hv:v.ownBlock<;>simp),hbx2.cell,(box3 ((hg1.block bp (Array.getElem?_eq_some_iff.1 hp).1 (by simp)).trans hp)).1,(box3 ((hg1.block bq (Array.getElem?_eq_some_iff.1 hq).1 (by simp)).trans hq)).1,fun j u hj => ?_,?_,hXs⟩
 ·have hn:=World.alloc_heap_new ((W1.alloc (.cells #[.int .i64 mn,.int .i64 md] 25))) (.cells #[.int .i64 mn,.int .i64 md,.int .i64 p.id,.int .i64 q.id] 31)
  rw [hXs] at hn
  rw [Sx.add_plain,Nat.zero_add]
  simp only [World.cell?,hn]
  simpa using hj
 ·have:=hB1.size
  rw [World.size_alloc,hXs];omega
set_option maxRecDepth 100000 in
set_option maxHeartbeats 4000000 in
theorem mall_in (n : Nat) (l : List Pt) (fv : Value) (w : World) (hg0 : Gd w) (M : Nat → Prop) (hM : ∀ b, M b → b < w.heap.size) (hrep : Rep w M (.list 3 (l.map Pt.c)) fv) (hl : l.length ≤ 64) (hok : ∀ m ∈ outs (pairsOf l), m.ok) (hn : 4 ≤ n) :
    CallsIn Fence.wide n Tryz.prog 156 #[.agg #[fv]] w fun e w' => ∃ v, e = .returned v ∧ Rep w' M (.list 4 ((msrt (outs (pairsOf l))).map Mt.c)) v ∧ Below w.heap.size w w' := by
  have hn1 : 1 ≤ n := by omega
  have hn2 : 1 ≤ n - 1 := by omega
  have hn3 : 1 ≤ n - 1 - 1 := by omega
  have hf1 : Fence.wide.fn 202 := trivial
  have h1 : fv.oneCell' = true := Rep.one hrep
  have hwd : ∀ p ∈ l, WDC p.dc := fun p hp => by
    have := WD_list.1 hrep.wd
    have h := this.2.2 p.c (List.mem_map_of_mem hp)
    exact ⟨h _ (by simp [Pt.c]), h _ (by simp [Pt.c]), h _ (by simp [Pt.c]), trivial⟩
  refine callsIn_of_wp_marks Tryz.func156 rfl trivial ?_ rfl
  simp only [Tryz.ntmps156, List.size_toArray, List.length_cons, List.length_nil, Nat.reduceAdd, Nat.reduceSub, Array.replicate_succ, Array.replicate_zero, List.push_toArray, List.append_toArray, List.nil_append, List.cons_append]
  gi_wp2_with (gi_at_call 202; (with_reducible refine CallsIn.mono (mpairs_in _ fv _ h1) ?_); rintro e w1 ⟨rfl, rfl⟩)
  obtain ⟨W0, hW0⟩ : ∃ W0, W0 = ((w.alloc (.cells #[fv] 39)).alloc (.cells #[.slice none 0 0] 26)).alloc (.cells #[fv] 39) := ⟨_, rfl⟩
  have hB0 : Below w.heap.size w W0 := by rw [hW0]; exact (((Below.refl _ w).alloc (Nat.le_refl _) _).alloc (by simp) _).alloc (by simp; omega) _
  have hs0 : W0.heap.size = w.heap.size + 3 := by rw [hW0]; simp
  have hb0 : Boxed W0 (w.heap.size + 1) 26 (.slice none 0 0) := by
    rw [hW0]
    have := Boxed.new (w.alloc (.cells #[fv] 39)) 26 (.slice none 0 0)
    rw [World.size_alloc] at this
    exact this.alloc _
  have hc0 : W0.heap[w.heap.size + 2]? = some (.cells #[fv] 39 (0, 0)) := by
    rw [hW0]
    have := World.alloc_heap_new ((w.alloc (.cells #[fv] 39)).alloc (.cells #[.slice none 0 0] 26)) (.cells #[fv] 39 (0, 0))
    simpa using this
  have hr0 : Rep W0 (fun b => w.heap.size ≤ b) (.list 3 (l.map Pt.c)) fv := hrep.mono (Holds.of_below hB0) (fun b hb hM => absurd hM (by omega))
  rw [← hW0]
  obtain ⟨T, hT⟩ : ∃ T : Array Value, T = #[.agg #[fv], .pointer (some ⟨w.heap.size, 0, none⟩), .slice none 0 0, .pointer (some ⟨w.heap.size + 1, 0, none⟩), undef, undef, undef, undef, .agg #[fv], .func (.func 237) #[] #[.pointer (some ⟨w.heap.size + 2, 0, none⟩)], undef, undef, undef, undef, undef, undef, undef, undef, undef, undef, undef, undef, undef, undef, undef, undef, undef, undef, undef, undef, undef, undef] := ⟨_, rfl⟩
  refine wpIn_rangeAll (n0 := w.heap.size) (w0 := W0) (xs := pairsOf l) (α := Pt × Pt) (encs := fun pq => #[pq.1.v, pq.2.v]) hn1 (gf := 237) (lb := #[.pointer (some ⟨w.heap.size + 2, 0, none⟩)]) rfl (fun _ _ => Tryz.call237 _ _)
    (pairs1_stops l w.heap.size (n - 1) (w.heap.size + 2) fv W0 (by omega) hc0 hr0 (by omega) hn2) (Below.refl _ _) (by omega) (fun _ => rfl) (OutI w) (outI_from w _ (by omega)) ⟨⟨_, hb0, ⟨rfl, .inl ⟨rfl, rfl⟩⟩, trivial⟩, hB0⟩
    (OutA w T) (fun x a => outA_from w T _ (by omega) x a) ?_ ?_ ?_
  · rintro lp pre ⟨p, q⟩ W hmem hpl hI
    have hBW := hI.2
    rw [zip2]
    show Code.wpIn _ _ _ _ _ { tmps := #[Value.agg #[fv], Value.pointer (some ⟨w.heap.size, 0, none⟩), Value.slice none 0 0, Value.pointer (some ⟨w.heap.size + 1, 0, none⟩), undef, undef, undef, undef, Value.agg #[fv], Value.func (.func 237) #[] #[.pointer (some ⟨w.heap.size + 2, 0, none⟩)], Value.agg #[.int .i64 p.id, .int .i64 p.a, .int .i64 p.b], Value.agg #[.int .i64 q.id, .int .i64 q.a, .int .i64 q.b], undef, undef, undef, undef, undef, undef, undef, undef, undef, undef, undef, undef, undef, undef, undef, undef, undef, undef, undef, undef], defers := [] } W
    gi_wp2_with (rw [Oper.semAt_eq _ _ _ (fun c h => by cases h)]; go_simp; try go_bits)
    have hWs : w.heap.size ≤ W.heap.size := hBW.size
    refine ⟨(KeepsOthers.alloc W _).trans (KeepsOthers.alloc _ _), (KeepT.alloc W _ hWs).trans (KeepT.alloc _ _ (by simp; omega)), ⟨hwd p (pairs_mem hmem).1, hwd q (pairs_mem hmem).2, by have h := pairs_len l; have : l.length * l.length ≤ 64 * 64 := Nat.mul_le_mul hl hl; omega⟩, (outI_from w _ (Nat.le_refl _)).alloc _ ((outI_from w _ (Nat.le_refl _)).alloc _ hI), W.heap.size, W.heap.size + 1, ?_, ?_, ?_, hWs, by omega⟩
    · rw [hT]; rfl
    · exact (Below.heap_alloc _ _ _ (by simp)).trans (World.alloc_heap_new W _)
    · have := World.alloc_heap_new (W.alloc (.cells #[.int .i64 p.id, .int .i64 p.a, .int .i64 p.b] 43)) (.cells #[.int .i64 q.id, .int .i64 q.a, .int .i64 q.b] 43 (0, 0))
      rwa [World.size_alloc] at this
  · rintro lp pre ⟨p, q⟩ a1 W ⟨⟨wp, wq, hpl⟩, hI, bp, bq, rfl, hp, hq, gp, gq⟩
    rw [hT]
    show Code.wpIn _ _ _ _ _ { tmps := #[Value.agg #[fv], Value.pointer (some ⟨w.heap.size, 0, none⟩), Value.slice none 0 0, Value.pointer (some ⟨w.heap.size + 1, 0, none⟩), Value.pointer (some ⟨bp, 0, none⟩), Value.pointer (some ⟨bq, 0, none⟩), undef, undef, Value.agg #[fv], Value.func (.func 237) #[] #[.pointer (some ⟨w.heap.size + 2, 0, none⟩)], Value.agg #[.int .i64 p.id, .int .i64 p.a, .int .i64 p.b], Value.agg #[.int .i64 q.id, .int .i64 q.a, .int .i64 q.b], undef, undef, undef, undef, undef, undef, undef, undef, undef, undef, undef, undef, undef, undef, undef, undef, undef, undef, undef, undef], defers := [] } W
    obtain ⟨⟨v, hbx, hrow, _⟩, hBW⟩ := id hI
    obtain ⟨p0, p1, p2⟩ := box3 hp
    obtain ⟨q0, q1, q2⟩ := box3 hq
    have hf2 : Fence.wide.fn 203 := trivial
    obtain ⟨e, he, hsz, _, _, ti, z, hi0, hsz0, hz0, hzs, _, hby⟩ := (ty_ok 26 (.sl 4 true [.v (.int .i64 0), .v (.int .i64 0), .v (.int .i64 0), .v (.int .i64 0)]) rfl).2.2.2
    have hee : e = 31 := by
      have := he.symm.trans Tryz.underlying26
      injection this with this; injection this
    subst hee
    have hWs : w.heap.size ≤ W.heap.size := hBW.size
    have hkl : (outs pre).length ≤ 10000 := Nat.le_trans (outs_len pre) hpl
    have hm1 : meet1 (p, q) = if (meetV p.id p.a p.b q.id q.a q.b).2.2 = 0 then some ⟨(meetV p.id p.a p.b q.id q.a q.b).1, (meetV p.id p.a p.b q.id q.a q.b).2.1, p.id, q.id⟩ else none := rfl
    have hkm := kMeet_in (n := n - 1 - 1 - 1) (lp := lp) p q W (gd_keep hBW.size (fun b hb => hBW.block b (Nat.lt_of_lt_of_le hb (gd_size hg0))) hg0) wp wq
    generalize meetV p.id p.a p.b q.id q.a q.b = mv at hm1 hkm
    obtain ⟨mn, md, me⟩ := mv
    simp only at hm1
    simp only [Pt.v] at hkm
    by_cases he0 : me = 0
    · rw [if_pos he0] at hm1
      subst he0
      have o4 : ∀ u ∈ ([.int .i64 mn, .int .i64 md, .int .i64 p.id, .int .i64 q.id] : List Value), u.oneCell' = true := by simp [Value.oneCell']
      have b1 : (outs pre).length + 1 ≤ maxLen := by unfold maxLen; omega
      have b2 : ((outs pre).length + 1) * ti.bytes ≤ 140737488355328 := by
        have : ((outs pre).length + 1) * ti.bytes ≤ 10001 * 65536 := Nat.mul_le_mul (by omega) hby
        omega
      have hes : outs (pre ++ [(p, q)]) = outs pre ++ [⟨mn, md, p.id, q.id⟩] := by rw [outs_snoc, hm1]; rfl
      gi_wp2_with (first
        | (gi_at_call 203; (with_reducible refine CallsIn.mono hkm ?_); rintro e W1 ⟨rfl, hB1⟩
           obtain ⟨hbx2, hrow2, c0, c1, c2, cM, b3, hXs⟩ := body_facts mn md hB1 hWs hbx hrow hp hq)
        | (gi_at_builtin; refine wpListIn_append_own _ rfl _ _ 26 rfl w.heap.size 31 ti z 4 ti.bytes Tryz.underlying26 hi0 hz0 hsz0 rfl hzs (by decide) _ _ _ rfl (hrow2.alloc _) ⟨W1.heap.size + 1, 0, none⟩ 1 1 [.int .i64 mn, .int .i64 md, .int .i64 p.id, .int .i64 q.id] rfl rfl cM o4 b1 b2 b3 ?_; intro v' w3 hown' hg3 hnil3
           have hg4 : World.grownBy (((W1.alloc (.cells #[.int .i64 mn, .int .i64 md] 25))).alloc (.cells #[.int .i64 mn, .int .i64 md, .int .i64 p.id, .int .i64 q.id] 31)) w3 v.ownBlock := hg3
           obtain ⟨g', cap', hv'⟩ := ownsRow_succ hown'
           subst hv'
           have hap := Boxed.appended hbx2 (by decide) hrow2 (by rw [hXs]; have := hB1.size; omega) (Nat.le_succ _) hown' hg3
           have c3 := hap.1.cell
           have c4 := hap.1.frozen)
        | (rw [Oper.semAt_eq _ _ _ (fun c h => by cases h)]; go_simp; try go_bits))
      obtain ⟨a1, a2, a3, a4, a5⟩ := hap
      have hB1n : Below w.heap.size W (W1.alloc (.cells #[.int .i64 mn, .int .i64 md] 25)) := (hB1.mono hWs).trans ((Below.refl _ W1).alloc (Nat.le_trans hWs hB1.size) _)
      refine ⟨((KeepsOthers.of_below hB1).trans (KeepsOthers.alloc _ _)).trans a4, ?_, ?_⟩
      · refine (((KeepT.of_below hB1 hWs).trans (KeepT.alloc _ _ (Nat.le_trans hWs hB1.size))).trans (KeepT.alloc _ _ (by rw [hXs]; have := hB1.size; omega))).trans ((KeepT.of_grownBy hg4 ?_ b3).trans (KeepT.of_grownBy (grownBy_setCell' w3 _ _) ?_ (Nat.le_trans b3 hg4.size)))
        · intro r hr
          rcases (hrow2.alloc (.cells #[.int .i64 mn, .int .i64 md, .int .i64 p.id, .int .i64 q.id] 31)).2 with ⟨rfl, _⟩ | ⟨g, cap, cur, rfl, hb, hgb, _⟩
          · simp [Value.ownBlock] at hr
          · obtain rfl : g = r := by simpa [Value.ownBlock] using hr
            exact ⟨hb, cur, _, _, hgb, by decide, by decide⟩
        · rintro r hr
          injection hr with hr
          subst hr
          exact ⟨Nat.le_succ _, _, _, _, a1, by decide, by decide⟩
      · unfold OutI
        rw [hes]
        exact ⟨⟨_, a2, by simpa [Mt.vals] using a3, trivial⟩, (hBW.trans hB1n).trans a5⟩
    · rw [if_neg he0] at hm1
      gi_wp2_with (first
        | (gi_at_call 203; (with_reducible refine CallsIn.mono hkm ?_); rintro e W1 ⟨rfl, hB1⟩)
        | (rw [Oper.semAt_eq _ _ _ (fun c h => by cases h)]; go_simp; try go_bits))
      have hg1 := grownBy_of_below (hB1.trans ((Below.refl _ W1).alloc hB1.size (.cells #[.int .i64 mn, .int .i64 md] 25)))
      refine ⟨(KeepsOthers.of_below hB1).trans (KeepsOthers.alloc _ _), (KeepT.of_below hB1 hWs).trans (KeepT.alloc _ _ (by have := hB1.size; omega)), ?_⟩
      have e : outs (pre ++ [(p, q)]) = outs pre := by rw [outs_snoc, hm1]; simp
      unfold OutI
      rw [e]
      exact outI_from w _ (Nat.le_refl _) pre W _ none hI hg1 (fun r e => by cases e)
  · rintro D W hD hI hK
    obtain ⟨⟨v, hbx, hrow, _⟩, hBW⟩ := hI
    obtain ⟨m, m1, m2, m3⟩ := row_of_owns hrow hok
    have hc0 := hbx.cell
    have hf3 : Fence.wide.fn 204 := trivial
    have hplen : (outs (pairsOf l)).length ≤ 1000000 := by
      have h := pairs_len l
      have : l.length * l.length ≤ 64 * 64 := Nat.mul_le_mul hl hl
      exact Nat.le_trans (outs_len _) (by omega)
    have hmu := sortMt_mu (l := outs (pairsOf l)) hok hplen
    have hMb : ∀ b, (0 < m.cap ∧ b = m.b) → b < W.heap.size := fun b h => by
      obtain ⟨_, cs, hcs⟩ := m3 h.1
      rw [h.2]; exact (Array.getElem?_eq_some_iff.1 hcs).1
    have hsort : CallsIn Fence.wide (n - 1) Tryz.prog 204 #[v, .func (.func 205) #[] #[]] W fun e w' => e = .returned (.tuple #[]) ∧ BelowC (fun b => 0 < m.cap ∧ b = m.b) W.heap.size W w' ∧ BlkR (fun _ => m) w' (fun b => 0 < m.cap ∧ b = m.b) m (.row 4 ((msrt (outs (pairsOf l))).map Mt.c) m.ver) := by
      refine callsIn_wide.2 ?_
      obtain ⟨g, hg, hc⟩ := hmu.2 W (fun b => 0 < m.cap ∧ b = m.b) v [.func (.func 205) #[] #[]] m ⟨hMb, gd_keep hBW.size (fun b hb => hBW.block b (Nat.lt_of_lt_of_le hb (gd_size hg0))) hg0, fun b h => by rw [h.2]; exact Nat.le_trans (gd_size hg0) (m3 h.1).1⟩ (fun h => ⟨h, rfl⟩) ⟨Rep.clo (caps := []) (fun _ => undef) (fun i hi => absurd hi (Nat.not_lt_zero _)), trivial⟩ m1 m2
      have hgg : g = 204 := by
        have := Tryz.call204 #[v, .func (.func 205) #[] #[]] W
        have hg' : (callFunc 204 #[v, .func (.func 205) #[] #[]]).run Tryz.prog W = .ok (.enter g #[v, .func (.func 205) #[] #[]]) W := hg
        rw [this] at hg'
        injection hg' with h1; injection h1 with h1; exact h1.symm
      subst hgg
      exact hc
    have hOne : ¬ (0 < m.cap ∧ w.heap.size + 1 = m.b) := fun h => by
      obtain ⟨_, cs, hcs⟩ := m3 h.1
      have hb : W.heap[w.heap.size + 1]? = some (.cells #[v] 26 (0, 0)) := hbx
      rw [h.2, hcs] at hb
      injection hb with hb
      injection hb with _ hb
      exact absurd hb (by decide)
    have hDne : ¬ (0 < m.cap ∧ D = m.b) := fun h => by
      obtain ⟨_, cs, hcs⟩ := m3 h.1
      rw [h.2, hcs] at hK
      injection hK with hK
      cases hK
    gi_wp2_with (gi_at_call 204; (with_reducible refine CallsIn.mono hsort ?_); rintro e w1 ⟨rfl, b1, r1⟩; have c1 : w1.cell? ⟨w.heap.size + 1, 0, none⟩ = some v := (World.cell?_of_block (b1.block _ (Array.getElem?_eq_some_iff.1 (show W.heap[w.heap.size + 1]? = _ from hbx)).1 hOne)).trans hc0)
    have hK1 : w1.heap[D]? = some (.deferred (some [])) := (b1.block D (Array.getElem?_eq_some_iff.1 hK).1 hDne).trans hK
    refine ⟨by simp, .inl ⟨_, _, rfl, run_takeDeferred hK1, ?_⟩⟩
    refine ⟨_, results_tmp rfl _ _ _, v, rfl, ?_, ?_⟩
    · have hg := grownBy_putObj' w1 D (.deferred none)
      have hh : Holds M w1 (w1.putObj D (.deferred none)) := ⟨by simp, fun b _ _ hc => World.putObj_heap_other fun e => by
        subst e
        obtain ⟨cs, T', f, hc⟩ := hc
        rw [hK1] at hc; injection hc with hc; cases hc⟩
      refine Rep.mono (row_data (blk_flat (M' := M) (flat_flatten hmu.1) r1) m2 (fun b hb h => h) (fun h hm => by have := hM _ hm; have := (m3 h).1; omega) (fun h => by
        obtain ⟨_, cs, hcs⟩ := m3 h
        exact Nat.lt_of_lt_of_le (Array.getElem?_eq_some_iff.1 hcs).1 b1.size)) hh (fun _ _ h => h)
    · refine ((hBW.trans ⟨b1.os, b1.tape, b1.output, b1.size, fun k hk => b1.block k (Nat.lt_of_lt_of_le hk hBW.size) fun h => by have := (m3 h.1).1; omega⟩)).grown (grownBy_putObj' w1 D _) (Nat.le_trans hBW.size b1.size) (fun k e => by cases e; omega)
end Go.Proofs.YtfkfficabeclcaaGreatDoor

namespace Go.Proofs.YtfkfficabeclcaaGreatDoor
open Go Go.RowKit Go.Sort Sx
abbrev allM (l:List Pt):List Mt:=msrt (outs (pairsOf l))
theorem pairs_lt:∀ {l:List Pt} {p q:Pt},incr l=true→(p,q)∈pairsOf l→p.id<q.id
 | [],p,q,_,h=>by simp [pairsOf] at h
 | x::l,p,q,hs,h=>by
  simp only [pairsOf,List.mem_append,List.mem_map,Prod.mk.injEq] at h
  rcases h with ⟨y,hy,rfl,rfl⟩|h
  ·obtain ⟨k,hk,rfl⟩:=List.getElem_of_mem hy
   have:=incr_lt hs (k+1) 0 (by simpa using hk) (by omega)
   simpa using this
  ·exact pairs_lt (incr_tail hs) h
theorem meet_cases {p q:Pt} (h1:p.chk=0) (h2:q.chk=0) (hne:p.id≠q.id):(p.b=q.b∧meet1 (p,q)=none) ∨
  (p.b≠q.b∧meet1 (p,q)=some ⟨(makeV (p.a-q.a) (q.b-p.b)).1,(makeV (p.a-q.a) (q.b-p.b)).2.1,p.id,q.id⟩∧chk (makeV (p.a-q.a) (q.b-p.b)).1 (makeV (p.a-q.a) (q.b-p.b)).2.1=0 ∧
   1≤(makeV (p.a-q.a) (q.b-p.b)).2.1∧(makeV (p.a-q.a) (q.b-p.b)).2.1≤2097152 ∧ -2097152≤(makeV (p.a-q.a) (q.b-p.b)).1∧(makeV (p.a-q.a) (q.b-p.b)).1≤2097152):=by
 have ht:two02 p.id p.a p.b q.id q.a q.b 0 1=0:=by
  unfold two02
  rw [if_pos ⟨h1,h2,by decide⟩,if_neg hne]
 have hm:meetV p.id p.a p.b q.id q.a q.b=if p.b=q.b then (0,0,6) else makeV (p.a-q.a) (q.b-p.b):=by unfold meetV;rw [if_pos ht]
 unfold meet1
 rw [hm]
 by_cases hb:p.b=q.b
 ·refine .inl ⟨hb,?_⟩
  simp [hb]
 ·obtain ⟨n,m,e,c1,c2,c3,c4,c5,_⟩:=meet_e h1 h2 hb
  refine .inr ⟨hb,?_,?_⟩
  ·simp [hb,e]
  ·rw [e];exact ⟨c1,c2,c3,c4,c5⟩
theorem outs_ok {l:List Pt} (h:fchk l=0):∀ m∈outs (pairsOf l),m.ok∧m.d≤2097152 ∧ -2097152≤m.n∧m.n≤2097152:=fun m hm=>by
 obtain ⟨_,k2,k3⟩:=fchk_ok h
 obtain ⟨⟨p,q⟩,h1,h2⟩:=List.mem_filterMap.1 hm
 obtain ⟨hp,hq⟩:=pairs_mem h1
 have hlt:=pairs_lt k3 h1
 have cp:=cpt_ok (k2 p hp)
 have cq:=cpt_ok (k2 q hq)
 rcases meet_cases (k2 p hp) (k2 q hq) (by omega) with ⟨_,e⟩|⟨_,e,c1,c2,c3,c4,c5⟩
 ·rw [e] at h2;cases h2
 ·rw [e] at h2
  injection h2 with h2
  subst h2
  exact ⟨⟨c1,by simp only;omega,by simp only;omega,by simp only;omega,by simp only;omega⟩,c3,c4,c5⟩
theorem outs_len2 {l:List Pt} (hl:l.length≤64):(outs (pairsOf l)).length≤4096:=by
 have h:=pairs_len l
 have:l.length*l.length≤64*64:=Nat.mul_le_mul hl hl
 exact Nat.le_trans (outs_len _) (by omega)
theorem mall_fn {l:List Pt} (h:fchk l=0):FnOK Tryz.prog 156 [fld l] (.c (.one (mts (allM l)))):=by
 refine fun w M vs hM hvs=>.inl ⟨156,Tryz.call156 _ _,?_⟩
 match vs,hvs with
 | [u],⟨⟨us,e,hus⟩,_⟩ =>
  subst e
  match us,hus with
  | [fv],⟨hfv,_⟩ =>
   exact (callsIn_wide.1 (mall_in 4 l fv w hM.gd M hM.lt hfv (fchk_ok h).1 (fun m hm=>(outs_ok h m hm).1) (by omega))).mono fun e w' ⟨v,h1,h2,h3⟩=>⟨v,h1,h2,h3⟩
theorem msrt_perm (l:List Mt):(msrt l).Perm l:=List.mergeSort_perm _ _
theorem msrt_mem {l:List Mt} {m:Mt}:m∈msrt l↔m∈l:=(msrt_perm l).mem_iff
theorem msrt_len (l:List Mt):(msrt l).length=l.length:=(msrt_perm l).length_eq
theorem mlt_asymm {a b:Mt} (h1:mlt a b) (h2:mlt b a):False:=mlt_irrefl a (mlt_trans h1 h2)
theorem mlt_neg {a b c:Mt} (h1:¬ mlt b a) (h2:¬ mlt c b):¬ mlt c a:=fun h=>by
 rcases mlt_tri a b with k|k|⟨e1,e2,e3⟩
 ·exact h2 (mlt_trans h k)
 ·exact h1 k
 ·apply h2
  unfold mlt at h ⊢
  rw [← e1,← e2,← e3];exact h
theorem msrt_sorted (l:List Mt):(msrt l).Pairwise fun a b=>¬ mlt b a:=by
 have:=List.pairwise_mergeSort (le:=fun x y:Mt => !decide (mlt y x)) (fun a b c h1 h2=>by
  simp only [Bool.not_eq_true',decide_eq_false_iff_not] at *
  exact mlt_neg h1 h2) (fun a b=>by
  simp only [Bool.or_eq_true,Bool.not_eq_true',decide_eq_false_iff_not]
  by_cases h:mlt b a
  ·exact .inr fun k=>mlt_asymm h k
  ·exact .inl h) l
 refine this.imp fun {a b} h => ?_
 simpa using h
theorem allM_asc {l:List Pt} (h:fchk l=0):Asc (allM l):=by
 refine ⟨fun i hi=>(outs_ok h _ (msrt_mem.1 (List.getElem_mem hi))).1.1,fun j i hj hij => ?_⟩
 have:=List.pairwise_iff_getElem.1 (msrt_sorted (outs (pairsOf l))) i j (Nat.lt_trans hij hj) hj hij
 unfold mlt at this
 exact Rat.not_lt.1 fun k=>this (.inl k)
theorem bcnt_le:∀ (l:List Mt) (n e:Int),bcnt l n e≤l.length
 | [],_,_=>Nat.le_refl _
 | m::l,n,e=>by
  have:=bcnt_le l n e
  unfold bcnt;split<;>simp<;>omega
def btw (l:List Mt) (n e r t:Int):List Mt:=(l.take (bcnt l r t)).drop (bcnt l n e)
end Go.Proofs.YtfkfficabeclcaaGreatDoor

namespace Go.Proofs.YtfkfficabeclcaaGreatDoor
open Go Go.RowKit Go.Sort Sx
set_option maxRecDepth 2000
structure Rp where
 e:Int
 i:Int
 j:Int
 n:Int
 d:Int
 ms:List Mt
 deriving DecidableEq,Inhabited
def Rp.c (r:Rp):List D:=[i64 r.e,i64 r.i,i64 r.j,i64 r.n,i64 r.d,mts r.ms]
abbrev Rp.dc (r:Rp):DC:=.agg [i64 r.e,i64 r.i,i64 r.j,i64 r.n,i64 r.d,mts r.ms]
def rp0:Rp:=⟨0,0,0,0,0,[]⟩
def rpE (e:Int):Rp:=⟨e,0,0,0,0,[]⟩
end Go.Proofs.YtfkfficabeclcaaGreatDoor

namespace Go.Proofs.YtfkfficabeclcaaGreatDoor
open Go.RowKit Go.Sort Sx
end Go.Proofs.YtfkfficabeclcaaGreatDoor
