import Derived.Test.YtfkfficabeclcaaGreatDoorGLTNamesAK
import Derived.Test.YtfkfficabeclcaaGreatDoorGLTNamesAJ
import Derived.Lib.AppendZerosOnto
import Derived.Shelf.Spec.SlicesInsert
import Derived.Deep.RegionLaw
import Derived.Test.YtfkfficabeclcaaGreatDoorGLTNamesAR
import Derived.RangeFuncFrom
import Derived.RangeFuncLeaves
import Derived.WalkKit
import Derived.OwnWalkIn
import Derived.TacticsInMore
import Derived.RegionIn
import Derived.LoopNIn
import Derived.LoopIn
import Derived.RangeFuncCalls
set_option linter.all false
namespace Go.Proofs.YtfkfficabeclcaaGreatDoor
open Go Go.RowKit Go.Sort Sx
structure Oth (b:Nat) (w w':World):Prop where
 os:w'.os=w.os
 tape:w'.tape=w.tape
 output:w'.output=w.output
 size:w'.heap.size=w.heap.size
 other:∀ k,k≠b→w'.heap[k]? = w.heap[k]?
 drawn:w.drawn≤w'.drawn
theorem Oth.trans {b:Nat} {w w' w'':World} (h:Oth b w w') (k:Oth b w' w''):Oth b w w'' :=
 ⟨k.os.trans h.os,k.tape.trans h.tape,k.output.trans h.output,k.size.trans h.size,fun i hi=>(k.other i hi).trans (h.other i hi),Nat.le_trans h.drawn k.drawn⟩
theorem Oth.drew (b:Nat) (w:World):Oth b w w.drew:=⟨rfl,rfl,rfl,rfl,fun _ _=>rfl,Nat.le_succ _⟩
theorem drew_cell (w:World) (a:Addr):w.drew.cell? a=w.cell? a:=rfl
theorem drew_cells {w:World} {b:Nat} {us:List Value} (h:CellsAt w b us):CellsAt w.drew b us:=h
theorem Oth.cell {b:Nat} {w w':World} (h:Oth b w w') {a:Addr} (ha:a.block≠b):w'.cell? a=w.cell? a:=World.cell?_of_block (h.other _ ha)
section
variable {P:Program}
theorem run_storeOth {w:World} {b o:Nat} {us vs:List Value} (hc:CellsAt w b us) (h1:∀ v∈vs,v.oneCell'=true) (hl:o+vs.length≤us.length):∃ w',(storeCells ⟨b,o,none⟩ vs).run P w=.ok () w'∧Oth b w w'∧CellsAt w' b (Sx.setL us o vs):=by
 obtain ⟨w',hr,e1,e2,e3,e4,e5,e6,e7⟩:=run_storeOwn (P:=P) vs w us o 0 hc h1 (by omega)
 exact ⟨w',hr,⟨e1,e2,e3,e4,e5,Nat.le_of_eq e7.symm⟩,e6⟩
theorem run_copyK {w:World} {dT sT ty elem k b o dLen dCap sLen sCap:Nat} {ad:Addr} {us vs:List Value} (hu:P.underlying dT=some (.slice elem)) (hs:∀ w,(sizeOf elem).run P w=.ok k w) (hc:CellsAt w b us)
  (hn:vs.length=Nat.min sLen dLen*k) (hsrc:∀ j v,vs[j]? = some v→w.cell? (ad.add j)=some v) (hfit:o+vs.length≤us.length) (h1:∀ v∈vs,v.oneCell'=true) :
  ∃ w',(Builtin.copy_ #[dT,sT] ty #[.slice (some ⟨b,o,none⟩) dLen dCap,.slice (some ad) sLen sCap]).run P w=.ok (goInt (Nat.min sLen dLen)) w'∧Oth b w w'∧CellsAt w' b (Sx.setL us o vs):=by
 obtain ⟨w',hr,e1,e2⟩:=run_storeOth (P:=P) hc h1 hfit
 refine ⟨w',?_,e1,e2⟩
 have hl:=run_loadCells_list (P:=P) w ad vs hsrc
 rw [hn] at hl
 simp [Builtin.copy_,run_underlying hu,Builtin.lenOf,Builtin.firstCells,hs,hl,hr]
theorem run_clearK {w:World} {t e ty k b o n c:Nat} {z:Value} {us:List Value} (hu:P.underlying t=some (.slice e)) (hv:∀ w,(zeroValue e).run P w=.ok z w) (hz:z.cells.size=k) (h1:∀ v∈z.cells.toList,v.oneCell'=true)
  (hc:CellsAt w b us) (hfit:o+n*k≤us.length) :
  ∃ w',(Builtin.clear_ #[t] ty #[.slice (some ⟨b,o,none⟩) n c]).run P w=.ok (.tuple #[]) w'∧Oth b w w'∧CellsAt w' b (Sx.setL us o (List.replicate n z.cells.toList).flatten):=by
 have hlen:(List.replicate n z.cells.toList).flatten.length=n*k:=by simp [hz]
 obtain ⟨w',hr,e1,e2⟩:=run_storeOth (P:=P) (vs:=(List.replicate n z.cells.toList).flatten) hc (fun v hv=>by
  obtain ⟨l,h2,h3⟩:=List.mem_flatten.1 hv
  rw [List.eq_of_mem_replicate h2] at h3
  exact h1 v h3) (by rw [hlen];exact hfit)
 cases n with
 | zero =>
  refine ⟨w,?_,⟨rfl,rfl,rfl,rfl,fun _ _=>rfl,Nat.le_refl _⟩,by simpa [setL_nil] using hc⟩
  simp [Builtin.clear_,run_underlying hu]
 | succ n =>
  refine ⟨w',?_,e1,e2⟩
  have e:(Builtin.zeroCells z.cells (n+1)).toList=(List.replicate (n+1) z.cells.toList).flatten:=made_list z.cells (n+1)
  simp only [Builtin.clear_,Sem.run_bind,run_underlying hu,Result.andThen_ok,hv,e,hr,Sem.run_pure,List.getElem?_toArray,List.getElem?_cons_zero]
theorem run_overlaps_own {w:World} {tS tR e:TypeId} (ht:P.underlying tS=some (.slice e)) {size:Nat} (hz:∀ w,(Go.sizeOf e).run P w=.ok size w) {a b:Addr} {la ca lb cb:Nat} (hne:a.block≠b.block) {v:Value} (ha:w.cell? a=some v) {us:List Value} (hb:CellsAt w b.block us) :
  (Extern.SlicesOverlaps.overlaps #[tS,tS] #[tR] #[.slice (some a) la ca,.slice (some b) lb cb]).run P w=.ok (.bool false) w:=by
 have hnb:(a.block != b.block)=true:=by simpa using hne
 have hnb':(a.block == b.block)=false:=by simpa using hne
 obtain ⟨T,hT⟩:=hb
 have hsb:w.shape? b.block=some (T,us.toArray.size):=by simp only [World.shape?,hT]
 have hfb:∀ o,w.frozen? { block:=b.block,off:=o }=false:=fun o=>by simp [World.frozen?,hT]
 have hfb':w.frozen? b=false:=by simp [World.frozen?,hT]
 obtain ⟨ca',Ta,fa,hA,hpos⟩:∃ cs T f,w.heap[a.block]? = some (.cells cs T f)∧cs.size≠0:=by
  unfold World.cell? at ha
  cases ho:w.heap[a.block]? with
  | none=>simp [ho] at ha
  | some o=>cases o<;>first|(refine ⟨_,_,_,rfl,?_⟩;intro h0;simp [ho] at ha;have:=ha.2;simp [Array.eq_empty_of_size_eq_zero h0] at this)|(simp [ho] at ha)
 have hsa:w.shape? a.block=some (Ta,ca'.size):=by simp only [World.shape?,hA]
 change Sem.run P (α:=Value) (do
  let some t:=(#[tS,tS]:Array TypeId)[0]? | stuck "slices.overlaps: no parameter types"
  let .slice elem ← underlying t|stuck "slices.overlaps: slice type expected"
  let size ← Go.sizeOf elem
  match (some a:Option Addr),(some b:Option Addr) with
  | some a,some b =>
   if la=0∨lb=0∨size=0 then pure (Value.bool false)
   else if a.block != b.block && (← frozen a) && (← frozen b) then unsupported .addressObserved
   else do
    if a.block != b.block then do
     noView a;noView b
     if ← mayBeOne a b then return Value.bool ((← choose (.extern "sameAddr.stringBytes" 2)) == 1)
    pure (Value.bool (a.block == b.block && a.off<b.off+lb*size && b.off<a.off+la*size))
  | _,_=>pure (Value.bool false)) w=_
 by_cases h0:la=0∨lb=0∨size=0
 ·simp [run_underlying ht,hz,h0]
 ·cases hk:ca'.size with
  | zero=>exact absurd hk hpos
  | succ m =>
   rw [hk] at hsa
   cases h1:w.frozen? a<;>cases h2:w.frozen? { block:=a.block,off:=m+1 } <;>
    simp [run_underlying ht,hz,h0,hnb,hnb',frozen,noView,viewAt,mayBeOne,stringish,shape,Sem.run,hsa,hsb,hfb,hfb',h1,h2]
end
set_option maxHeartbeats 4000000 in
set_option maxRecDepth 100000 in
theorem ins_shift (b n c i vb vo vc:Nat) (us xs:List Value) (w:World) (hc:CellsAt w b us) (hus:us.length=c*3) (hone:∀ v∈us.take (n*3),v.oneCell'=true) (hi:i<n) (hroom:n+1≤c) (hc63:c≤9223372036854775807) (hvb:vb≠b)
  (hxs:xs.length=3) (hx1:∀ v∈xs,v.oneCell'=true) (hv:∀ j u,xs[j]? = some u→w.cell? ⟨vb,vo+j,none⟩=some u) :
  Calls Tryz.prog 160 #[.slice (some ⟨b,0,none⟩) n c,.int .i64 i,.slice (some ⟨vb,vo,none⟩) 1 vc] w fun e w' =>
   e=.returned (.slice (some ⟨b,0,none⟩) (n+1) c)∧Oth b w w'∧CellsAt w' b (Sx.setL (Sx.setL us ((i+1)*3) ((us.drop (i*3)).take ((n-i)*3))) (i*3) xs):=by
 have h0:=hv 0 _ (List.getElem?_eq_getElem (by omega))
 rw [Nat.add_zero] at h0
 have hov:∀ lb cb,(callFunc 210 #[.slice (some ⟨vb,vo,none⟩) 1 vc,.slice (some ⟨b,(i+1)*3,none⟩) lb cb]).run Tryz.prog w=.ok (.value (.bool false)) w:=fun lb cb=>by
  rw [run_callFunc_extern Tryz.func210 (by kernel_rfl) (by kernel_rfl) (by kernel_rfl) (e:=Extern.SlicesOverlaps.overlaps #[37,37] #[4]) (by kernel_rfl),
   run_overlaps_own (a:=⟨vb,vo,none⟩) (b:=⟨b,(i+1)*3,none⟩) Tryz.underlying37 Tryz.sizeOf43 hvb h0 hc]
  rfl
 have hl1:((us.drop (i*3)).take ((n-i)*3)).length=(n-i)*3:=by rw [List.length_take,List.length_drop,hus];omega
 have hcp1:∀ ty dc sc,∃ w1,(Builtin.copy_ #[37,37] ty #[.slice (some ⟨b,(i+1)*3,none⟩) (n+1-(i+1)) dc,.slice (some ⟨b,i*3,none⟩) (n+1-i) sc]).run Tryz.prog w.drew=.ok (goInt ((n-i:Nat):Int)) w1∧Oth b w.drew w1∧CellsAt w1 b (Sx.setL us ((i+1)*3) ((us.drop (i*3)).take ((n-i)*3))):=fun ty dc sc=>by
  have:=run_copyK (P:=Tryz.prog) (w:=w.drew) (dT:=37) (sT:=37) (ty:=ty) (o:=(i+1)*3) (dLen:=n+1-(i+1)) (dCap:=dc) (sLen:=n+1-i) (sCap:=sc) (ad:=⟨b,i*3,none⟩) (vs:=(us.drop (i*3)).take ((n-i)*3)) Tryz.underlying37 Tryz.sizeOf43 hc
   (by rw [hl1];simp only [Nat.min_def];split<;>congr 1<;>omega) (fun j v hj=>by
    rw [add_plain,drew_cell,cell_of hc]
    rw [List.getElem?_take] at hj
    split at hj
    ·rw [List.getElem?_drop] at hj;exact hj
    ·cases hj) (by rw [hl1,hus];omega) (fun v hv=>hone v (by
    have:(us.drop (i*3)).take ((n-i)*3)=(us.take (n*3)).drop (i*3):=by rw [List.drop_take];congr 1;omega
    rw [this] at hv;exact List.mem_of_mem_drop hv))
  have e:Nat.min (n+1-i) (n+1-(i+1))=n-i:=by simp only [Nat.min_def];split<;>omega
  rwa [e] at this
 have hz2:¬ ((i:Int)=(n:Int)):=by omega
 have hw1:IntKind.i64.wrap ((i:Int)+1)=(i:Int)+1:=by rw [IntKind.wrap_i64];omega
 have hw2:IntKind.i64.wrap ((n:Int)+1)=(n:Int)+1:=by rw [IntKind.wrap_i64];omega
 have hin:i≤n:=by omega
 have hb2:¬ (c=i+1):=by omega
 have hb4:¬ (c=i):=by omega
 have htn:((i:Int)+1).toNat=i+1:=by omega
 have htn2:((n:Int)+1).toNat=n+1:=by omega
 have hb1:(0:Int)≤(i:Int)+1:=by omega
 have hb3:(i:Int)≤(n:Int)+1:=by omega
 have mixed:Tryz.prog.follows .mixedOrders=true:=by kernel_rfl
 clear hone
 go_enter Tryz.func160,Tryz.ntmps160
 go_wp2_with (simp only [hov])
 obtain ⟨w1,hr1,o1,c1⟩:=hcp1 3 (c-(i+1)) (c-i)
 obtain ⟨w2,hr2,o2,c2⟩:=run_copyK (P:=Tryz.prog) (w:=w1) (dT:=37) (sT:=37) (ty:=3) (o:=i*3) (dLen:=n+1-i) (dCap:=c-i) (sLen:=1) (sCap:=vc) (ad:=⟨vb,vo,none⟩) (vs:=xs) Tryz.underlying37 Tryz.sizeOf43 c1
  (by rw [hxs];simp only [Nat.min_def];split<;>omega) (fun j v hj=>by
   rw [add_plain,o1.cell hvb];exact hv j v hj) (by rw [setL_length,hus,hxs];omega) hx1
 go_region_law_o (refine step_copy_runI rfl _ _ 37 37 rfl _ _ (by simp [Act.eval,Act.put]) (by simp [Act.eval,Act.put]) hr1 ?_)
 go_wp2_with (at_builtin;refine wpList_copy_runI _ rfl _ _ 37 37 rfl _ _ rfl rfl hr2 ?_)
 go_ret
 exact ⟨rfl,((Oth.drew b w).trans o1).trans o2,c2⟩
set_option maxHeartbeats 4000000 in
set_option maxRecDepth 100000 in
theorem ins_end (x:Option Addr) (n c vb vo vc:Nat) (v:Value) (w w1:World) (hnc:n≤c) (hc63:c≤9223372036854775807) (hr:∀ ty,(Builtin.append_ #[37,37] ty #[.slice x n c,.slice (some ⟨vb,vo,none⟩) 1 vc]).run Tryz.prog w=.ok v w1) :
  Calls Tryz.prog 160 #[.slice x n c,.int .i64 n,.slice (some ⟨vb,vo,none⟩) 1 vc] w fun e w'=>e=.returned v∧w'=w1:=by
 have mixed:Tryz.prog.follows .mixedOrders=true:=by kernel_rfl
 go_enter Tryz.func160,Tryz.ntmps160
 cases x with
 | none =>
  go_wp2_with (at_builtin;refine Lib.wpList_append_run _ rfl _ _ _ _ rfl _ _ rfl rfl _ _ (hr _) ?_)
  all_goals (go_ret;exact ⟨rfl,rfl⟩)
 | some a =>
  obtain ⟨ab,ao,asp⟩:=a
  go_wp2_with (at_builtin;refine Lib.wpList_append_run _ rfl _ _ _ _ rfl _ _ rfl rfl _ _ (hr _) ?_)
  all_goals (go_ret;exact ⟨rfl,rfl⟩)
set_option maxHeartbeats 4000000 in
set_option maxRecDepth 100000 in
theorem ins_grow (b n c i vb vo vc:Nat) (us xs:List Value) (w:World) (hc:CellsAt w b us) (hus:us.length=c*3) (hone:∀ v∈us.take (n*3),v.oneCell'=true) (hi:i<n) (hnc:n≤c) (hroom:c<n+1) (hn6:n≤1000000)
  (hxs:xs.length=3) (hx1:∀ v∈xs,v.oneCell'=true) (hv:∀ j u,xs[j]? = some u→w.cell? ⟨vb,vo+j,none⟩=some u) :
  Calls Tryz.prog 160 #[.slice (some ⟨b,0,none⟩) n c,.int .i64 i,.slice (some ⟨vb,vo,none⟩) 1 vc] w fun e w' =>
   ∃ g row,e=.returned (.slice (some ⟨w.heap.size,0,none⟩) (n+1) g)∧n+1≤g∧g≤9223372036854775807∧Below w.heap.size w w'∧(w.heap.size<w'.heap.size∧w.drawn≤w'.drawn) ∧
    row.length=g*3∧CellsAt w' w.heap.size (Sx.setL (Sx.setL row (i*3) xs) ((i+1)*3) ((us.drop (i*3)).take ((n-i)*3)))∧row.take (i*3)=us.take (i*3):=by
 have hbw:b<w.heap.size:=by obtain ⟨T,hT⟩:=hc;exact (Array.getElem?_eq_some_iff.1 hT).1
 have h0:=hv 0 _ (List.getElem?_eq_getElem (by omega))
 have hvw:vb<w.heap.size:=block_lt_of_cell h0
 obtain ⟨e,he,hsz,_,_,ti,z,hi0,hsz0,hz0,hzs,_,hby⟩:=(ty_ok 37 (.sl 3 true [.v (.int .i64 0),.v (.int .i64 0),.v (.int .i64 0)]) rfl).2.2.2
 have hee:e=43:=by
  have:=he.symm.trans Tryz.underlying37
  injection this with this;injection this
 subst hee
 have hl1:((us.drop (i*3)).take ((n-i)*3)).length=(n-i)*3:=by rw [List.length_take,List.length_drop,hus];omega
 have hold:(Builtin.firstCells ti.size i (.slice (some ⟨b,0,none⟩) i c)).run Tryz.prog w.drew=.ok (us.take (i*3)).toArray w.drew:=by
  rw [hsz0]
  exact run_firstCells_some w.drew 3 i ⟨b,0,none⟩ i c (us.take (i*3)) (by rw [List.length_take];omega) (fun j v hj=>by
   rw [add_plain,Nat.zero_add,drew_cell,cell_of hc]
   rw [List.getElem?_take] at hj
   split at hj
   ·exact hj
   ·cases hj)
 have hkk:(n:Int)+1-(i:Int)=((n+1-i:Nat):Int):=by omega
 have hik:i+(n+1-i)=n+1:=by omega
 obtain ⟨G,hG⟩:∃ G,G=grownCap w (n+1) c 43:=⟨_,rfl⟩
 obtain ⟨ROW,hROW⟩:∃ ROW:Array Value,ROW=(us.take (i*3)).toArray++Builtin.zeroCells z.cells (n+1-i)++Builtin.zeroCells z.cells (G-(n+1)):=⟨_,rfl⟩
 have hrz:∀ ty,(Builtin.append_ #[37,3] ty #[.slice (some ⟨b,0,none⟩) i c,.int .i64 ((n:Int)+1-(i:Int))]).run Tryz.prog w =
   .ok (.slice (some ⟨w.heap.size,0,none⟩) (n+1) G) (w.drew.alloc (.cells ROW 43)):=fun ty=>by
  have h:=Lib.run_append_grow_zeros w 37 3 ty 43 ti _ .i64 .i64 Tryz.underlying37 Tryz.underlying3 hi0 hz0 (some ⟨b,0,none⟩) i c (us.take (i*3)) hold (n+1-i) (by omega) (by omega) (by omega) (by omega) (by
   have:(n+1-i)*ti.bytes≤1000001*65536:=Nat.mul_le_mul (by omega) hby
   omega) (by rw [hik];exact growslice_fits hroom (by
    have:(n+1)*ti.bytes≤1000001*65536:=Nat.mul_le_mul (by omega) hby
    omega))
  rw [hik,← hG,← hROW] at h
  rw [hkk]
  exact h
 have hGn:n+1≤G:=by rw [hG];exact grownCap_ge w _ _ _
 have hG63:G≤9223372036854775807:=by
  have:=grownCap_le_maxLen w (n+1) c 43 (by unfold maxLen;omega)
  rw [← hG] at this
  unfold maxLen at this
  omega
 have hRl:ROW.toList.length=G*3:=by
  rw [hROW]
  simp only [Array.toList_append,List.length_append,List.length_take,Array.length_toList,size_zeroCells,hzs]
  omega
 have hRt:ROW.toList.take (i*3)=us.take (i*3):=by
  rw [hROW]
  simp only [Array.toList_append,List.append_assoc]
  rw [List.take_append_of_le_length (by simp;omega),List.take_take,Nat.min_self]
 obtain ⟨W1,hW1⟩:∃ W1,W1=w.drew.alloc (.cells ROW 43):=⟨_,rfl⟩
 rw [← hW1] at hrz
 have c0:CellsAt W1 w.heap.size ROW.toList:=⟨43,by rw [hW1];exact (heap_alloc_new w.drew _)⟩
 have hB1:Below w.heap.size w W1:=by rw [hW1];exact below_drew_alloc w _
 have hd1:w.drawn≤W1.drawn:=by rw [hW1];exact Nat.le_succ _
 have hs1:W1.heap.size=w.heap.size+1:=by rw [hW1];simp
 have hold1:∀ {k o:Nat},k<w.heap.size→W1.cell? ⟨k,o,none⟩=w.cell? ⟨k,o,none⟩:=fun hk=>World.cell?_of_block (hB1.block _ hk)
 obtain ⟨w2,hr2,o2,c2⟩:=run_copyK (P:=Tryz.prog) (w:=W1) (dT:=37) (sT:=37) (ty:=3) (o:=i*3) (dLen:=n+1-i) (dCap:=G-i) (sLen:=1) (sCap:=vc) (ad:=⟨vb,vo,none⟩) (vs:=xs) Tryz.underlying37 Tryz.sizeOf43 c0
  (by rw [hxs];simp only [Nat.min_def];split<;>omega) (fun j v hj=>by
   rw [add_plain,hold1 hvw];exact hv j v hj) (by rw [hRl,hxs];omega) hx1
 obtain ⟨w3,hr3,o3,c3⟩:=run_copyK (P:=Tryz.prog) (w:=w2.drew) (dT:=37) (sT:=37) (ty:=3) (o:=(i+1)*3) (dLen:=n+1-(i+1)) (dCap:=G-(i+1)) (sLen:=n-i) (sCap:=c-i) (ad:=⟨b,i*3,none⟩) (vs:=(us.drop (i*3)).take ((n-i)*3)) Tryz.underlying37 Tryz.sizeOf43 (drew_cells c2)
  (by rw [hl1];simp only [Nat.min_def];split<;>congr 1<;>omega) (fun j v hj=>by
   rw [add_plain,drew_cell,o2.cell (by show b≠w.heap.size;omega),hold1 hbw,cell_of hc]
   rw [List.getElem?_take] at hj
   split at hj
   ·rw [List.getElem?_drop] at hj;exact hj
   ·cases hj) (by rw [hl1,setL_length,hRl];omega) (fun v hv=>hone v (by
   have:(us.drop (i*3)).take ((n-i)*3)=(us.take (n*3)).drop (i*3):=by rw [List.drop_take];congr 1;omega
   rw [this] at hv;exact List.mem_of_mem_drop hv))
 have hz2:¬ ((i:Int)=(n:Int)):=by omega
 have hz3:(c:Int)<(n:Int)+1:=by omega
 have hw1:IntKind.i64.wrap ((i:Int)+1)=(i:Int)+1:=by rw [IntKind.wrap_i64];omega
 have hw2:IntKind.i64.wrap ((n:Int)+1)=(n:Int)+1:=by rw [IntKind.wrap_i64];omega
 have hw3:IntKind.i64.wrap ((n:Int)+1-(i:Int))=(n:Int)+1-(i:Int):=by rw [IntKind.wrap_i64];omega
 have hin:i≤n:=by omega
 have hGi:¬ (G=i):=by omega
 have hGim:¬ (G=i+1):=by omega
 have hci:¬ (c=i):=by omega
 have hb1:(0:Int)≤(i:Int)+1:=by omega
 have hb3:(i:Int)≤(n:Int)+1:=by omega
 have hic:i≤c:=by omega
 have htn:((i:Int)+1).toNat=i+1:=by omega
 have mixed:Tryz.prog.follows .mixedOrders=true:=by kernel_rfl
 have FIN:Hid (Below w.heap.size w w3∧(w.heap.size<w3.heap.size∧w.drawn≤w3.drawn)):=Lib.hid (by
  have e1:=o2.size
  have e2:=o3.size
  refine ⟨⟨by rw [o3.os];show w2.os=_;rw [o2.os];exact hB1.os,by rw [o3.tape];show w2.tape=_;rw [o2.tape];exact hB1.tape,by rw [o3.output];show w2.output=_;rw [o2.output];exact hB1.output,by rw [e2];show w.heap.size≤w2.heap.size;omega,fun k hk => ?_⟩,by rw [e2];show _<w2.heap.size;omega,Nat.le_trans (Nat.le_trans hd1 o2.drawn) (Nat.le_trans (Nat.le_succ _) o3.drawn)⟩
  rw [o3.other k (by omega)]
  show w2.heap[k]? = _
  rw [o2.other k (by omega)]
  exact hB1.block k hk)
 clear hkk hik hold hROW hG hone hW1
 go_enter Tryz.func160,Tryz.ntmps160
 go_wp2_with (first
  | (at_builtin;refine Lib.wpList_append_run _ rfl _ _ _ _ rfl _ _ rfl rfl _ _ (hrz _) ?_)
  | (at_builtin;refine wpList_copy_runI _ rfl _ _ 37 37 rfl _ _ rfl rfl hr2 ?_))
 go_region_law_o (refine step_copy_runI rfl _ _ 37 37 rfl _ _ (by simp [Act.eval,Act.put]) (by simp [Act.eval,Act.put]) hr3 ?_)
 go_wp2
 go_ret
 exact ⟨G,ROW.toList,rfl,hGn,hG63,FIN.out.1,FIN.out.2,hRl,c3,hRt⟩
end Go.Proofs.YtfkfficabeclcaaGreatDoor

namespace Go.Proofs.YtfkfficabeclcaaGreatDoor
open Go Go.RowKit Go.Sort Sx
theorem setCells_oth {w:World} {b o:Nat} {us vs:List Value} (hc:CellsAt w b us) (h1:∀ v∈vs,v.oneCell'=true) (hl:o+vs.length≤us.length):Oth b w (w.setCells b o vs)∧CellsAt (w.setCells b o vs) b (Sx.setL us o vs):=by
 obtain ⟨w',hr,e1,e2⟩:=run_storeOth (P:=Tryz.prog) hc h1 hl
 obtain ⟨T,hT⟩:=id hc
 have:=run_storeCells_cells (P:=Tryz.prog) b o vs 0 w (fun j hj=>by rw [Nat.add_zero,cell_of hc,List.getElem?_eq_getElem (by omega)];rfl) (fun j hj=>frozen_of_row w b _ us.toArray T hT) h1
 rw [hr] at this
 injection this with _ this
 rw [Nat.add_zero] at this
 rw [← this]
 exact ⟨e1,e2⟩
set_option maxHeartbeats 4000000 in
set_option maxRecDepth 100000 in
theorem del_one (b n c i j:Nat) (us:List Value) (w:World) (hc:CellsAt w b us) (hus:us.length=c*3) (hone:∀ v∈us.take (n*3),v.oneCell'=true) (hij:i<j) (hj1:j≤i+1) (hjn:j≤n) (hnc:n≤c) (hc63:c≤9223372036854775807) :
  Calls Tryz.prog 161 #[.slice (some ⟨b,0,none⟩) n c,.int .i64 i,.int .i64 j] w fun e w' =>
   ∃ zs,e=.returned (.slice (some ⟨b,0,none⟩) (i+(n-j)) c)∧Oth b w w'∧zs.length=3∧CellsAt w' b (Sx.setL (Sx.setL us (i*3) ((us.drop (j*3)).take ((n-j)*3))) ((i+(n-j))*3) zs):=by
 have mixed:Tryz.prog.follows .mixedOrders=true:=by kernel_rfl
 obtain ⟨e,he,hsz,_,_,ti,z,hi0,hsz0,hz0,hzs,_,hby⟩:=(ty_ok 37 (.sl 3 true [.v (.int .i64 0),.v (.int .i64 0),.v (.int .i64 0)]) rfl).2.2.2
 have hee:e=43:=by
  have:=he.symm.trans Tryz.underlying37
  injection this with this;injection this
 subst hee
 obtain ⟨news,hnews⟩:∃ news,news=(us.drop (j*3)).take ((n-j)*3):=⟨_,rfl⟩
 have hlen:news.length=(n-j)*3:=by rw [hnews,List.length_take,List.length_drop,hus];omega
 have hget:∀ t u,news[t]? = some u→us[j*3+t]? = some u:=fun t u ht=>by
  rw [hnews,List.getElem?_take] at ht
  split at ht
  ·rw [List.getElem?_drop] at ht;exact ht
  ·cases ht
 have s2:Hid (∀ u∈news,u.oneCell'=true):=Lib.hid (fun v hv=>hone v (by
  have:(us.drop (j*3)).take ((n-j)*3)=(us.take (n*3)).drop (j*3):=by rw [List.drop_take];congr 1;omega
  rw [hnews,this] at hv;exact List.mem_of_mem_drop hv))
 obtain ⟨A,hA,hsrc⟩:∃ A:Addr,(if c=j then (some ⟨b,0,none⟩:Option Addr) else some ⟨b,j*3,none⟩)=some A∧Hid (∀ t u,news[t]? = some u→w.drew.cell? (A.add t)=some u):=by
  by_cases h:c=j
  ·refine ⟨⟨b,0,none⟩,by simp [h],Lib.hid fun t u hu => ?_⟩
   have h0:news.length=0:=by rw [hlen];omega
   rw [List.length_eq_zero_iff.1 h0] at hu
   simp at hu
  ·refine ⟨⟨b,j*3,none⟩,by simp [h],Lib.hid fun t u hu => ?_⟩
   rw [add_plain,drew_cell,cell_of hc]
   exact hget t u hu
 obtain ⟨o1,c1⟩:=setCells_oth (w:=w.drew) (o:=i*3) hc s2.out (by rw [hlen,hus];omega)
 obtain ⟨T,hT⟩:=id hc
 have s1:Hid (news.length=(n-j)*3):=Lib.hid hlen
 have s3:Hid (∀ t,t<news.length→(w.drew.cell? ⟨b,0+i*3+t,none⟩).isSome=true∧w.drew.frozen? ⟨b,0+i*3+t,none⟩=false):=Lib.hid fun t ht =>
  ⟨by rw [drew_cell,cell_of hc,List.getElem?_eq_getElem (by rw [hlen] at ht;rw [hus];omega)];rfl,frozen_of_row w b _ us.toArray T hT⟩
 obtain ⟨W1,hW1⟩:∃ W1,W1=w.drew.setCells b (0+i*3) news:=⟨_,rfl⟩
 have hW:Hid (W1=w.drew.setCells b (0+i*3) news):=Lib.hid hW1
 rw [← Nat.zero_add (i*3),← hW1] at o1 c1
 rw [Nat.zero_add] at c1
 obtain ⟨w2,hr2,o2,c2⟩:=run_clearK (P:=Tryz.prog) (w:=W1) (t:=37) (e:=43) (ty:=0) (k:=3) (b:=b) (o:=(i+(n-j))*3) (n:=1) (c:=c-(i+(n-j))) Tryz.underlying37 Tryz.zeroValue43 rfl (by decide) c1 (by rw [setL_length,hus];omega)
 have hn1:n-(i+(n-j))=1:=by omega
 have hlz:(List.replicate 1 (Value.agg #[.int .i64 0,.int .i64 0,.int .i64 0]).cells.toList).flatten.length=3:=rfl
 have hic:i≤c:=by omega
 have hjc:j≤c:=by omega
 have hne:¬ ((i:Int)=(j:Int)):=by omega
 have FIN:Hid (Oth b w w2):=Lib.hid (((Oth.drew b w).trans o1).trans o2)
 rw [← hnews]
 clear hone hnews hget hlen hW1
 go_enter Tryz.func161,Tryz.ntmps161
 go_wp2_with fail
 go_region_law_o (refine step_append_room rfl (.tmp 22) (.tmp 25) 37 rfl 43 ti 3 Tryz.underlying37 hi0 hsz0 b 0 i c (by simp [Act.eval,Act.put]) A (n-j) (c-j) news (by simp [Act.eval,Act.put]) s1.out hsrc.out s2.out (by omega) s3.out ?_;rw [← hW.out])
 go_wp2
 go_ret
 exact ⟨_,rfl,FIN.out,hlz,c2⟩
end Go.Proofs.YtfkfficabeclcaaGreatDoor

namespace Go.Proofs.YtfkfficabeclcaaGreatDoor
open Go Go.RowKit Go.Sort Sx
theorem DsR_take {w:World} {M:Nat→Prop} {a:List D} {u:List Value} (n:Nat) (h:DsR w M a u):DsR w M (a.take n) (u.take n):=by
 have:=AtsR.take (ρ:=fun _=>default) n (DsR.ats.1 h)
 rw [← List.map_take] at this
 exact DsR.ats.2 this
theorem DsR_drop {w:World} {M:Nat→Prop} {a:List D} {u:List Value} (n:Nat) (h:DsR w M a u):DsR w M (a.drop n) (u.drop n):=by
 have:=AtsR.drop (ρ:=fun _=>default) n (DsR.ats.1 h)
 rw [← List.map_drop] at this
 exact DsR.ats.2 this
theorem flat_take {α:Type} {k:Nat}:∀ {l:List (List α)} (i:Nat),(∀ x∈l,x.length=k)→(l.take i).flatten=l.flatten.take (i*k)∧(l.drop i).flatten=l.flatten.drop (i*k)
 | [],i,_=>by simp
 | x::l,0,h=>by simp
 | x::l,i+1,h=>by
  have hx:=h x (List.mem_cons_self ..)
  obtain ⟨h1,h2⟩:=flat_take (l:=l) i fun y hy=>h y (List.mem_cons_of_mem _ hy)
  have e:(i+1)*k=x.length+i*k:=by rw [hx,Nat.add_mul];omega
  rw [e]
  constructor
  ·rw [List.take_succ_cons,List.flatten_cons,List.flatten_cons,h1,List.take_length_add_append]
  ·rw [List.drop_succ_cons,List.flatten_cons,h2,List.drop_length_add_append]
theorem row_blk {w':World} {M:Nat→Prop} {b cap v k:Nat} {l:List (List D)} {vs rest:List Value} (hk:∀ x∈l,x.length=k) (hc:CellsAt w' b (vs++rest)) (hD:DsR w' M l.flatten vs) (hlen:(vs++rest).length=cap*k) (hlc:l.length≤cap) (hcap:0<cap) (hc63:cap≤9223372036854775807) :
  BlkR (fun _=>⟨false,b,cap,l.length,v⟩) w' M ⟨false,b,cap,l.length,v⟩ (.row k l v) :=
 ⟨⟨hk,rfl,fun h=>absurd h (by show ¬ cap=0;omega),rfl,rfl⟩,fun _=>⟨_,hc,hlc,hc63,hlen,vs,rest,rfl,hD⟩⟩
theorem Oth.belowC {b:Nat} {C:Nat→Prop} {n:Nat} {w w':World} (h:Oth b w w') (hb:b<n→C b) (hd:C n∨w.drawn≤w'.drawn):BelowC C n w w' :=
 ⟨h.os,h.tape,h.output,Nat.le_of_eq h.size.symm,fun k hk hC=>h.other k fun e=>hC (by rw [e];exact hb (by omega)),hd⟩
theorem setL_at {α:Type} {p q ds:List α} {o:Nat} (ho:p.length=o) (h:ds.length≤q.length):Sx.setL (p++q) o ds=p++(ds++q.drop ds.length):=by
 have:=setL_skip p q 0 ds
 rw [Nat.add_zero,ho] at this
 rw [this,setL_eq q 0 ds (by omega)]
 simp
theorem drop3 {α:Type} {B Y:List α} (hB:B.length=3):(B++Y).drop 3=Y:=by rw [← hB];exact List.drop_left
theorem cut3 {α:Type} (us:List α) (i:Nat) (h:(i+1)*3≤us.length):∃ A B Q,us=A++(B++Q)∧A.length=i*3∧B.length=3∧A=us.take (i*3) :=
 ⟨us.take (i*3),(us.drop (i*3)).take 3,(us.drop (i*3)).drop 3,by rw [List.take_append_drop,List.take_append_drop],by rw [List.length_take];omega,by rw [List.length_take,List.length_drop];omega,rfl⟩
theorem vs_part {us vs rest:List Value} {n i:Nat} (hus:us=vs++rest) (hv:vs.length=n*3) (hi:i≤n):(us.drop (i*3)).take ((n-i)*3)=vs.drop (i*3)∧us.take (i*3)=vs.take (i*3)∧(vs.drop (i*3)).length=(n-i)*3:=by
 refine ⟨?_,?_,by rw [List.length_drop];omega⟩
 ·rw [hus,List.drop_append_of_le_length (by omega),List.take_append_of_le_length (by rw [List.length_drop];omega),List.take_of_length_le (by rw [List.length_drop];omega)]
 ·rw [hus,List.take_append_of_le_length (by omega)]
theorem ins_cells {us vs rest xs:List Value} {n i:Nat} (hus:us=vs++rest) (hv:vs.length=n*3) (hx:xs.length=3) (hi:i≤n) (hr:(n+1)*3≤us.length) :
  ∃ rest',Sx.setL (Sx.setL us ((i+1)*3) ((us.drop (i*3)).take ((n-i)*3))) (i*3) xs=(vs.take (i*3)++(xs++vs.drop (i*3)))++rest':=by
 obtain ⟨e1,e2,l1⟩:=vs_part hus hv hi
 rw [e1]
 obtain ⟨A,B,Q,e,hA,hB,hAe⟩:=cut3 us i (by omega)
 have hQ:us.length=A.length+(B.length+Q.length):=by rw [e];simp
 rw [e,← List.append_assoc,setL_at (p:=A++B) (by rw [List.length_append];omega) (by omega),List.append_assoc,setL_at hA (by rw [List.length_append];omega),hx,drop3 hB,hAe,e2]
 exact ⟨Q.drop (vs.drop (i*3)).length,by simp only [List.append_assoc]⟩
theorem grow_cells {row us vs rest xs:List Value} {n i:Nat} (hus:us=vs++rest) (hv:vs.length=n*3) (hx:xs.length=3) (hi:i≤n) (hr:(n+1)*3≤row.length) (ht:row.take (i*3)=us.take (i*3)) :
  ∃ rest',Sx.setL (Sx.setL row (i*3) xs) ((i+1)*3) ((us.drop (i*3)).take ((n-i)*3))=(vs.take (i*3)++(xs++vs.drop (i*3)))++rest':=by
 obtain ⟨e1,e2,l1⟩:=vs_part hus hv hi
 rw [e1]
 obtain ⟨A,B,Q,e,hA,hB,hAe⟩:=cut3 row i (by omega)
 have hQ:row.length=A.length+(B.length+Q.length):=by rw [e];simp
 rw [e,setL_at hA (by rw [List.length_append];omega),hx,drop3 hB,← List.append_assoc,setL_at (p:=A++xs) (by rw [List.length_append];omega) (by omega),hAe,ht,e2]
 exact ⟨Q.drop (vs.drop (i*3)).length,by simp only [List.append_assoc]⟩
theorem del_cells {us vs rest zs:List Value} {n i:Nat} (hus:us=vs++rest) (hv:vs.length=n*3) (hz:zs.length=3) (hi:i<n) :
  ∃ rest',Sx.setL (Sx.setL us (i*3) ((us.drop ((i+1)*3)).take ((n-(i+1))*3))) ((i+(n-(i+1)))*3) zs=(vs.take (i*3)++vs.drop ((i+1)*3))++rest':=by
 obtain ⟨e1,_,l1⟩:=vs_part (i:=i+1) hus hv hi
 obtain ⟨_,e2,_⟩:=vs_part (i:=i) hus hv (by omega)
 have hul:n*3≤us.length:=by rw [hus,List.length_append];omega
 rw [e1]
 obtain ⟨A,B,Q,e,hA,hB,hAe⟩:=cut3 us i (by omega)
 have hQ:us.length=A.length+(B.length+Q.length):=by rw [e];simp
 rw [e,setL_at hA (by rw [List.length_append];omega),← List.append_assoc A,setL_at (p:=A++vs.drop ((i+1)*3)) (by rw [List.length_append];omega) (by rw [List.length_drop,List.length_append];omega),hAe,e2]
 exact ⟨_,rfl⟩
theorem insPt_con (l:List (List D)) (x:List D) (i:Nat) (hi:i≤l.length) (hl:l.length≤1000) (hf:∀ e∈l,flatL e=true) (hx:flatL x=true) (hx3:x.length=3) :
  FnCon Tryz.prog 160 3 l [.one (.v (.int .i64 i)),.one (.list 3 [x])] (l.take i++x::l.drop i):=by
 have hfl:∀ e∈l.take i++x::l.drop i,flatL e=true:=fun e he=>by
  rcases List.mem_append.1 he with he|he
  ·exact hf e (List.mem_of_mem_take he)
  ·rcases List.mem_cons.1 he with rfl|he
   ·exact hx
   ·exact hf e (List.mem_of_mem_drop he)
 have hfla:flatL (l.take i++x::l.drop i).flatten=true:=flat_flatten hfl
 refine ⟨hfl,fun w M v vs m hM hmM hvs hB hv => ?_⟩
 match vs,hvs with
 | [u1,u2],⟨hu1,hu2,_⟩ =>
  obtain ⟨⟨k1,k2,k3,k4,k5⟩,hreal⟩:=hB
  obtain ⟨ad,rfl,had⟩:=hv
  have hu1:Rep w M (.v (.int .i64 i)) u1:=hu1
  have hu2:Rep w M (.list 3 [x]) u2:=hu2
  have:=rep_int' hu1
  subst this
  refine ⟨160,Tryz.call160 _ _,?_⟩
  generalize hl0:[x]=lx at hu2
  cases hu2 with
  | nil=>cases hl0
  | @list vb vo vc _ _ ws q1 q2 q3 q4 q5 q6 q7 =>
   subst hl0
   obtain ⟨xs,hxs⟩:∃ xs:List Value,xs=(List.range 3).map (ws 0):=⟨_,rfl⟩
   have lxs:xs.length=3:=by rw [hxs];rfl
   have xget:∀ j u,xs[j]? = some u→w.cell? ⟨vb,vo+j,none⟩=some u:=fun j u hj=>by
    have hj3:j<3:=by rw [← lxs];exact (List.getElem?_eq_some_iff.1 hj).1
    rw [hxs,List.getElem?_map,List.getElem?_range hj3] at hj
    have:=q6 0 j (by simp) hj3
    simp only [Nat.zero_mul,Nat.add_zero] at this
    rw [this];exact hj
   have xD:DsR w M x xs:=DsR.of_get (by rw [lxs,hx3]) fun j y u h1 h2=>by
    have hj3:j<3:=by rw [← lxs];exact (List.getElem?_eq_some_iff.1 h2).1
    rw [hxs,List.getElem?_map,List.getElem?_range hj3] at h2
    have:=q7 0 j (by simp) (by simp;omega)
    have e:x[j]? = some (([x]:List (List D))[0][j]'(by simp;omega)):=by simp
    rw [e] at h1
    injection h1 with h1
    injection h2 with h2
    rw [← h1,← h2];exact this
   have hlen1:∀ e∈l.take i++x::l.drop i,e.length=3:=fun e he=>by
    rcases List.mem_append.1 he with he|he
    ·exact k1 e (List.mem_of_mem_take he)
    ·rcases List.mem_cons.1 he with rfl|he
     ·exact hx3
     ·exact k1 e (List.mem_of_mem_drop he)
   have hll:(l.take i++x::l.drop i).length=l.length+1:=by simp;omega
   have hls:([x]:List (List D)).length=1:=rfl
   rw [← k2]
   have data:∀ {vs:List Value},DsR w M l.flatten vs→DsR w M (l.take i++x::l.drop i).flatten (vs.take (i*3)++(xs++vs.drop (i*3))):=fun {vs} h=>by
    obtain ⟨f1,f2⟩:=flat_take i k1
    rw [List.flatten_append,List.flatten_cons,f1,f2]
    exact (DsR_take _ h).append (xD.append (DsR_drop _ h))
   rcases Nat.lt_or_ge i l.length with hil|hil
   ·have hcap:0<m.cap:=by
     rcases Nat.eq_zero_or_pos m.cap with h|h
     ·have:=k3 h;subst this;simp at hil
     ·exact h
    obtain ⟨us,hc,c1,c2,c3,vs,rest,c4,c5⟩:=hreal (by simpa [Blk.real] using hcap)
    have hvl:vs.length=l.length*3:=by rw [c5.length,flatten_len k1]
    have hone:∀ v∈us.take (l.length*3),v.oneCell'=true:=by
     rw [c4,← hvl,List.take_left];exact c5.one
    have hvb:vb≠m.b:=fun e=>q3 (by rw [e];exact hmM hcap)
    rw [had hcap]
    by_cases hroom:l.length+1≤m.cap
    ·refine (ins_shift m.b l.length m.cap i vb vo vc us xs w hc c3 hone hil hroom c2 hvb lxs xD.one xget).mono ?_
     rintro e w' ⟨rfl,o1,cc⟩
     obtain ⟨rest',er⟩:=ins_cells c4 hvl lxs hi (by rw [c3];omega)
     rw [er] at cc
     refine ⟨_,⟨false,m.b,m.cap,(l.take i++x::l.drop i).length,m.ver⟩,rfl,rfl,o1.belowC (fun _=>⟨hcap,rfl⟩) ?_,fun _=>.inl ⟨hcap,rfl⟩,?_,_,by rw [hll],fun _=>rfl⟩
     ·exact .inr o1.drawn
     ·exact row_blk hlen1 cc (flatL_rel hfla (data c5)) (by have:=congrArg List.length er;rw [setL_length,setL_length] at this;omega) (by omega) hcap c2
    ·refine (ins_grow m.b l.length m.cap i vb vo vc us xs w hc c3 hone hil c1 (by omega) (by omega) lxs xD.one xget).mono ?_
     rintro e w' ⟨g,row,rfl,g1,g2,g3,⟨g4,g5⟩,g6,cc,g7⟩
     obtain ⟨rest',er⟩:=grow_cells c4 hvl lxs hi (by rw [g6];omega) g7
     rw [er] at cc
     refine ⟨_,⟨false,w.heap.size,g,(l.take i++x::l.drop i).length,m.ver⟩,rfl,rfl,BelowC.of_below g3 (Nat.le_refl _) (.inr g5),fun _=>.inr ⟨Nat.le_refl _,g4⟩,?_,_,by rw [hll],fun _=>rfl⟩
     exact row_blk hlen1 cc (flatL_rel hfla (data c5)) (by have:=congrArg List.length er;rw [setL_length,setL_length] at this;omega) (by omega) (by omega) g2
   ·have hie:i=l.length:=by omega
    subst hie
    have hcl:l.length≤m.cap∧m.cap≤9223372036854775807:=by
     rcases Nat.eq_zero_or_pos m.cap with h|h
     ·have:=k3 h;rw [this,h];simp
     ·obtain ⟨us,hc,c1,c2,_⟩:=hreal (by simpa [Blk.real] using h);exact ⟨c1,c2⟩
    obtain ⟨e,he,hsz,_,_,ti,z,hi0,hsz0,hz0,hzs,_,hby⟩:=(ty_ok 37 (.sl 3 true [.v (.int .i64 0),.v (.int .i64 0),.v (.int .i64 0)]) rfl).2.2.2
    have hS:Src Tryz.prog ti.size 37 (.slice (some ⟨vb,vo,none⟩) 1 vc) 1 xs w:=by
     rw [hsz0]
     exact Src.ofSlice w Tryz.underlying37 ⟨vb,vo,none⟩ 1 vc xs (by rw [lxs]) (fun j u hj=>by rw [add_plain];exact xget j u hj) xD.one
    by_cases hroom:l.length+1≤m.cap
    ·have hcap:0<m.cap:=by omega
     obtain ⟨us,hc,c1,c2,c3,vs,rest,c4,c5⟩:=hreal (by simpa [Blk.real] using hcap)
     have hvl:vs.length=l.length*3:=by rw [c5.length,flatten_len k1]
     rw [had hcap]
     obtain ⟨T,hT⟩:=id hc
     obtain ⟨o1,cc⟩:=setCells_oth (w:=w) (o:=0+l.length*ti.size) hc xD.one (by rw [hsz0,lxs,c3];omega)
     refine (ins_end _ l.length m.cap vb vo vc _ w _ c1 c2 (fun ty=>run_append_room_src (P:=Tryz.prog) w 37 37 ty e ti he hi0 m.b 0 l.length m.cap _ 1 xs hS hroom
      (fun j hj=>by rw [hsz0,Nat.zero_add,cell_of hc,List.getElem?_eq_getElem (by rw [c3];omega)];rfl) (fun j hj=>frozen_of_row w m.b _ us.toArray T hT))).mono ?_
     rintro e w' ⟨rfl,rfl⟩
     rw [hsz0,Nat.zero_add] at o1 cc ⊢
     have er:Sx.setL us (l.length*3) xs=(vs.take (l.length*3)++(xs++vs.drop (l.length*3)))++rest.drop 3:=by
      rw [c4,setL_at hvl (by have:=congrArg List.length c4;rw [List.length_append] at this;omega),← hvl,List.take_length,List.drop_length,List.append_nil,lxs,List.append_assoc]
     have er2:=congrArg List.length er
     rw [setL_length] at er2
     rw [er] at cc
     refine ⟨_,⟨false,m.b,m.cap,(l.take l.length++x::l.drop l.length).length,m.ver⟩,rfl,rfl,o1.belowC (fun _=>⟨hcap,rfl⟩) (.inr o1.drawn),fun _=>.inl ⟨hcap,rfl⟩,?_,_,by rw [hll],fun _=>rfl⟩
     exact row_blk hlen1 cc (flatL_rel hfla (data c5)) (by omega) (by omega) hcap c2
    ·have hold:∃ olds,(Builtin.firstCells ti.size l.length (.slice ad l.length m.cap)).run Tryz.prog w.drew=.ok olds.toArray w.drew∧DsR w M l.flatten olds:=by
      rcases Nat.eq_zero_or_pos m.cap with h|h
      ·have:=k3 h
       subst this
       refine ⟨[],?_,trivial⟩
       cases ad with
       | none=>exact run_firstCells_none w.drew ti.size 0 0 _
       | some ad=>exact run_firstCells_some w.drew ti.size 0 ad 0 _ [] (by simp) (by simp)
      ·obtain ⟨cs,hcs,c1,c2,c3,vs,rest,c4,c5⟩:=hreal (by simpa [Blk.real] using h)
       rw [had h]
       refine ⟨vs,run_firstCells_some w.drew ti.size l.length _ _ _ vs (by rw [hsz0,c5.length,flatten_len k1]) (fun j u hj => ?_),c5⟩
       rw [add_plain,Nat.zero_add,drew_cell,cell_of hcs,c4,List.getElem?_append_left (List.getElem?_eq_some_iff.1 hj).1]
       exact hj
     obtain ⟨olds,hold,hDo⟩:=hold
     obtain ⟨cs,hcs,c1,c2,c3,vs,rest,c4,c5⟩:=grown_row (ρ:=fun _=>m) (M:=M) (w:=w) (k:=3) (e:=e) (l:=l) (xs:=[x]) (olds:=olds) (news:=xs) (old:=m.cap) hzs hDo (by simpa using xD) k1 (by simpa using hx3) (by simp;omega)
     have c1:(l++[x]).length≤grownCap w (l.length+1) m.cap e:=c1
     have c2:grownCap w (l.length+1) m.cap e≤9223372036854775807:=c2
     have c3:cs.length=grownCap w (l.length+1) m.cap e*3:=c3
     have hl1:(l++[x]).length=l.length+1:=by simp
     refine (ins_end ad l.length m.cap vb vo vc (.slice (some ⟨w.heap.size,0,none⟩) (l.length+1) (grownCap w (l.length+1) m.cap e)) w (w.drew.alloc (.cells cs.toArray e)) hcl.1 hcl.2 (fun ty=>by
      have hg:=run_append_grow_src (P:=Tryz.prog) w 37 37 ty e ti z he hi0 hz0 ad l.length m.cap olds hold _ 1 xs hS (by omega) (by omega) (growfits (by omega) (by omega) hby)
      rw [← hcs];exact hg)).mono ?_
     rintro e' w' ⟨rfl,rfl⟩
     have hbl:Below w.heap.size w (w.drew.alloc (.cells cs.toArray e)):=below_drew_alloc w _
     have elist:l.take l.length++x::l.drop l.length=l++[x]:=by simp
     rw [elist] at hfla hlen1 ⊢
     refine ⟨_,⟨false,w.heap.size,grownCap w (l.length+1) m.cap e,(l++[x]).length,m.ver⟩,rfl,rfl,BelowC.of_below hbl (Nat.le_refl _) (.inr (Nat.le_succ _)),fun _=>.inr ⟨Nat.le_refl _,by simp⟩,?_,_,by rw [hl1],fun _=>rfl⟩
     rw [c4] at c3
     exact row_blk hlen1 ⟨e,by rw [← c4];exact heap_alloc_new w.drew _⟩ (flatL_rel hfla c5) c3 c1 (by omega) c2
theorem delPt_con (l:List (List D)) (i:Nat) (hi:i<l.length) (hl:l.length≤1000) (hf:∀ e∈l,flatL e=true) :
  FnCon Tryz.prog 161 3 l [.one (.v (.int .i64 i)),.one (.v (.int .i64 (i+1:Nat)))] (l.take i++l.drop (i+1)):=by
 have hfl:∀ e∈l.take i++l.drop (i+1),flatL e=true:=fun e he=>by
  rcases List.mem_append.1 he with he|he
  ·exact hf e (List.mem_of_mem_take he)
  ·exact hf e (List.mem_of_mem_drop he)
 have hfla:flatL (l.take i++l.drop (i+1)).flatten=true:=flat_flatten hfl
 refine ⟨hfl,fun w M v vs m hM hmM hvs hB hv => ?_⟩
 match vs,hvs with
 | [u1,u2],⟨hu1,hu2,_⟩ =>
  obtain ⟨⟨k1,k2,k3,k4,k5⟩,hreal⟩:=hB
  obtain ⟨ad,rfl,had⟩:=hv
  have hu1:Rep w M (.v (.int .i64 i)) u1:=hu1
  have hu2:Rep w M (.v (.int .i64 (i+1:Nat))) u2:=hu2
  have:=rep_int' hu1
  subst this
  have:=rep_int' hu2
  subst this
  refine ⟨161,Tryz.call161 _ _,?_⟩
  have hcap:0<m.cap:=by
   rcases Nat.eq_zero_or_pos m.cap with h|h
   ·have:=k3 h;subst this;simp at hi
   ·exact h
  obtain ⟨us,hc,c1,c2,c3,vs,rest,c4,c5⟩:=hreal (by simpa [Blk.real] using hcap)
  have hvl:vs.length=l.length*3:=by rw [c5.length,flatten_len k1]
  have hone:∀ v∈us.take (l.length*3),v.oneCell'=true:=by
   rw [c4,← hvl,List.take_left];exact c5.one
  have hlen1:∀ e∈l.take i++l.drop (i+1),e.length=3:=fun e he=>by
   rcases List.mem_append.1 he with he|he
   ·exact k1 e (List.mem_of_mem_take he)
   ·exact k1 e (List.mem_of_mem_drop he)
  have hll:(l.take i++l.drop (i+1)).length=i+(l.length-(i+1)):=by simp;omega
  have data:DsR w M (l.take i++l.drop (i+1)).flatten (vs.take (i*3)++vs.drop ((i+1)*3)):=by
   rw [List.flatten_append,(flat_take i k1).1,(flat_take (i+1) k1).2]
   exact (DsR_take _ c5).append (DsR_drop _ c5)
  rw [had hcap,← k2]
  refine (del_one m.b l.length m.cap i (i+1) us w hc c3 hone (by omega) (Nat.le_refl _) (by omega) c1 c2).mono ?_
  rintro e w' ⟨zs,rfl,o1,hz,cc⟩
  obtain ⟨rest',er⟩:=del_cells c4 hvl hz hi
  rw [er] at cc
  refine ⟨_,⟨false,m.b,m.cap,(l.take i++l.drop (i+1)).length,m.ver⟩,rfl,rfl,o1.belowC (fun _=>⟨hcap,rfl⟩) (.inr o1.drawn),fun _=>.inl ⟨hcap,rfl⟩,?_,_,by rw [hll],fun _=>rfl⟩
  exact row_blk hlen1 cc (flatL_rel hfla data) (by have:=congrArg List.length er;rw [setL_length,setL_length] at this;omega) (by omega) hcap c2
end Go.Proofs.YtfkfficabeclcaaGreatDoor

namespace Go.Proofs.YtfkfficabeclcaaGreatDoor
open Go Go.RowKit Go.Sort Sx
theorem flat_pts (l:List Pt):∀ e∈l.map Pt.c,flatL e=true:=fun e he=>by
 obtain ⟨p,_,rfl⟩:=List.mem_map.1 he
 rfl
theorem insPt_pts (l:List Pt) (p:Pt) (hl:l.length≤1000):FnCon Tryz.prog 160 3 (l.map Pt.c) [.one (i64 (pos l p.id:Nat)),.one (.list 3 [[i64 p.id,i64 p.a,i64 p.b]])] ((insP l p).map Pt.c):=by
 have h:=insPt_con (l.map Pt.c) p.c (pos l p.id) (by rw [List.length_map];exact pos_le l p.id) (by rw [List.length_map];exact hl) (flat_pts l) rfl rfl
 have e:(l.map Pt.c).take (pos l p.id)++p.c::(l.map Pt.c).drop (pos l p.id)=(insP l p).map Pt.c:=by
  unfold insP;rw [List.map_append,List.map_cons,List.map_take,List.map_drop]
 rwa [e] at h
theorem fPut_fn (l:List Pt) (p:Pt):FnOK Tryz.prog 100 [fld l,p.dc] (retFl (putV l p)):=by
 have H1:=fCheck_fn l
 have H2:=kCheck_fn p.id p.a p.b
 unfold putV
 by_cases h1:fchk l=0
 ·obtain ⟨k1,k2,k3⟩:=fchk_ok h1
  have H3:=ffind_fn l p.id k3 (by omega)
  rw [if_pos h1]
  rw [h1] at H1
  by_cases h2:p.chk=0
  ·rw [if_pos h2]
   unfold Pt.chk at h2
   rw [h2] at H2
   cases hh:has l p.id
   ·rw [hh] at H3
    rw [if_neg (by decide)]
    by_cases h64:l.length=64
    ·rw [if_pos h64]
     refine fn_ok (by kernel_rfl) ty_ok Tryz.func100 rfl (fun _ _=>Tryz.call100 _ _) rfl ?_
     intro hw
     clear hw
     repeat' ((conv=>whnf);first|(with_reducible first|refine br_t ?_|refine br_f ?_|refine za ?_|refine zg ?_)|rw [List.length_map]|refine zp ?_|refine zq ?_|(with_reducible first|refine bc (fun h => ?_) (fun h => ?_)|refine zt ?_|refine zf ?_|refine br_i (fun h => ?_) (fun h => ?_))|refine zg ?_|refine zi ?_|refine zb ?_)
     all_goals conv=>whnf
     all_goals rfl
    ·rw [if_neg h64]
     have H4:=clonePt_own (l.map Pt.c) (by simp;omega)
     have H5:=insPt_pts l p (by omega)
     refine fn_ok (by kernel_rfl) (ty_okK [38] [] [160] []) Tryz.func100 rfl (fun _ _=>Tryz.call100 _ _) rfl ?_
     intro hw
     clear hw
     repeat' ((conv=>whnf);first|(with_reducible first|refine br_t ?_|refine br_f ?_|refine za ?_|refine zg ?_|refine zo ?_|refine zc ?_)|rw [List.length_map]|refine zp ?_|refine zq ?_|(with_reducible first|refine bc (fun h => ?_) (fun h => ?_)|refine zt ?_|refine zf ?_|refine br_i (fun h => ?_) (fun h => ?_))|refine zg ?_|refine zi ?_|refine zb ?_|refine zl ?_)
     all_goals conv=>whnf
     all_goals rfl
   ·rw [hh] at H3
    rw [if_pos rfl]
    refine fn_ok (by kernel_rfl) ty_ok Tryz.func100 rfl (fun _ _=>Tryz.call100 _ _) rfl ?_
    intro hw
    clear hw
    repeat' ((conv=>whnf);first|(with_reducible first|refine br_t ?_|refine br_f ?_|refine za ?_|refine zg ?_)|rw [List.length_map]|refine zp ?_|refine zq ?_|(with_reducible first|refine bc (fun h => ?_) (fun h => ?_)|refine zt ?_|refine zf ?_|refine br_i (fun h => ?_) (fun h => ?_))|refine zg ?_|refine zi ?_|refine zb ?_)
    all_goals conv=>whnf
    all_goals rfl
  ·rw [if_neg h2]
   have h8:cpt p.id p.a p.b=8:=(cpt_08 p.id p.a p.b).resolve_left h2
   rw [h8] at H2
   refine fn_ok (by kernel_rfl) ty_ok Tryz.func100 rfl (fun _ _=>Tryz.call100 _ _) rfl ?_
   intro hw
   clear hw
   exact zw
 ·rw [if_neg h1]
  generalize fchk l=z at *
  refine fn_ok (by kernel_rfl) ty_ok Tryz.func100 rfl (fun _ _=>Tryz.call100 _ _) rfl ?_
  intro hw
  clear hw
  exact zw
theorem take_drop_without {l:List Pt} {id:Int} (hs:incr l=true) (hh:has l id=true):l.take (pos l id)++l.drop (pos l id+1)=without l id:=by
 obtain ⟨hlt,he⟩:=(has_pos hs).1 hh
 obtain ⟨s1,s2⟩:=pos_spec (id:=id) hs
 have e:l=l.take (pos l id)++l[pos l id]::l.drop (pos l id+1):=by rw [← List.drop_eq_getElem_cons hlt,List.take_append_drop]
 unfold without
 conv=>rhs;rw [e]
 rw [List.filter_append,List.filter_cons,if_neg (by simp [he])]
 congr 1
 ·refine (List.filter_eq_self.2 fun p hp => ?_).symm
  obtain ⟨k,hk,rfl⟩:=List.getElem_of_mem hp
  simp only [List.length_take] at hk
  have:=s1 k (by omega) (by omega)
  simp only [List.getElem_take,decide_eq_true_eq]
  omega
 ·refine (List.filter_eq_self.2 fun p hp => ?_).symm
  obtain ⟨k,hk,rfl⟩:=List.getElem_of_mem hp
  simp only [List.length_drop] at hk
  have:=incr_lt hs (pos l id+1+k) (pos l id) (by omega) (by omega)
  simp only [List.getElem_drop,decide_eq_true_eq]
  omega
theorem delPt_pts (l:List Pt) (id:Int) (hl:l.length≤1000) (hs:incr l=true) (hh:has l id=true):FnCon Tryz.prog 161 3 (l.map Pt.c) [.one (i64 (pos l id:Nat)),.one (i64 (pos l id+1:Nat))] ((without l id).map Pt.c):=by
 obtain ⟨hlt,_⟩:=(has_pos hs).1 hh
 have h:=delPt_con (l.map Pt.c) (pos l id) (by rw [List.length_map];exact hlt) (by rw [List.length_map];exact hl) (flat_pts l)
 have e:(l.map Pt.c).take (pos l id)++(l.map Pt.c).drop (pos l id+1)=(without l id).map Pt.c:=by
  rw [← take_drop_without hs hh,List.map_append,List.map_take,List.map_drop]
 rwa [e] at h
theorem fTake_fn (l:List Pt) (id:Int):FnOK Tryz.prog 101 [fld l,.one (i64 id)] (retFl (takeV l id)):=by
 have H3:=fplace_fn l id
 unfold placeV at H3
 unfold takeV
 by_cases h1:fchk l=0
 ·obtain ⟨k1,k2,k3⟩:=fchk_ok h1
  rw [if_pos h1] at H3 ⊢
  cases hh:has l id
  ·rw [hh,if_neg (by decide)] at H3
   refine fn_ok (by kernel_rfl) ty_ok Tryz.func101 rfl (fun _ _=>Tryz.call101 _ _) rfl ?_
   intro hw
   clear hw
   exact zw
  ·rw [hh,if_pos rfl] at H3
   rw [if_pos rfl]
   obtain ⟨hlt,_⟩:=(has_pos k3).1 hh
   have H4:=clonePt_own (l.map Pt.c) (by simp;omega)
   have H5:=delPt_pts l id (by omega) k3 hh
   have hw1:IntKind.i64.wrap (((pos l id:Nat):Int)+1)=((pos l id+1:Nat):Int):=by rw [IntWalk.i64_in _ (by omega)];omega
   refine fn_ok (by kernel_rfl) (ty_okK [20] [] [161] []) Tryz.func101 rfl (fun _ _=>Tryz.call101 _ _) rfl ?_
   intro hw
   clear hw
   repeat' ((conv=>whnf);first|(with_reducible first|refine br_t ?_|refine br_f ?_|refine za ?_|refine zg ?_|refine zo ?_|refine zc ?_)|rw [hw1]|refine zp ?_|refine zq ?_|(with_reducible first|refine bc (fun h => ?_) (fun h => ?_)|refine zt ?_|refine zf ?_|refine br_i (fun h => ?_) (fun h => ?_))|refine zg ?_|refine zi ?_|refine zb ?_|refine zl ?_)
   all_goals conv=>whnf
   all_goals rfl
 ·rw [if_neg h1] at H3 ⊢
  have hz:fchk l≠0:=h1
  generalize fchk l=z at *
  refine fn_ok (by kernel_rfl) ty_ok Tryz.func101 rfl (fun _ _=>Tryz.call101 _ _) rfl ?_
  intro hw
  clear hw
  exact zw
end Go.Proofs.YtfkfficabeclcaaGreatDoor

namespace Go.Proofs.YtfkfficabeclcaaGreatDoor
open Go Go.RowKit Go.Sort Sx
structure KeepT (n0:Nat) (W W':World):Prop where
 size:W.heap.size≤W'.heap.size
 low:∀ k,k<n0→W'.heap[k]? = W.heap[k]?
 pt:∀ (k:Nat) (cs:Array Value) (T:TypeId) (fr:Nat × Nat),W.heap[k]? = some (Obj.cells cs T fr)→(T=43∨T=39)→W'.heap[k]? = W.heap[k]?
theorem KeepT.refl (n0:Nat) (W:World):KeepT n0 W W:=⟨Nat.le_refl _,fun _ _=>rfl,fun _ _ _ _ _ _=>rfl⟩
theorem KeepT.trans {n0:Nat} {A B C:World} (h:KeepT n0 A B) (k:KeepT n0 B C):KeepT n0 A C :=
 ⟨Nat.le_trans h.size k.size,fun i hi=>(k.low i hi).trans (h.low i hi),fun i cs T fr hi hT=>by
  have e:=h.pt i cs T fr hi hT
  exact (k.pt i cs T fr (e.trans hi) hT).trans e⟩
theorem KeepT.alloc {n0:Nat} (W:World) (o:Obj) (hn:n0≤W.heap.size):KeepT n0 W (W.alloc o) :=
 ⟨by simp,fun k hk=>Below.heap_alloc W o k (by omega),fun k cs T fr h _=>Below.heap_alloc W o k (Array.getElem?_eq_some_iff.1 h).1⟩
def Pt.v (p:Pt):Value:=.agg #[.int .i64 p.id,.int .i64 p.a,.int .i64 p.b]
def pairsOf:List Pt→List (Pt × Pt)
 | []=>[]
 | p::l=>l.map (fun q=>(p,q))++pairsOf l
def preP:List Pt→Nat→List (Pt × Pt)
 | _,0=>[]
 | [],_=>[]
 | p::l,i+1=>l.map (fun q=>(p,q))++preP l i
theorem preP_succ:∀ {l:List Pt} {i:Nat} (h:i<l.length),preP l (i+1)=preP l i++(l.drop (i+1)).map (fun q=>(l[i],q))
 | p::l,0,h=>by cases l<;>simp [preP]
 | p::l,i+1,h=>by
  have ih:=preP_succ (l:=l) (i:=i) (by simpa using h)
  rw [preP,ih,preP]
  simp
theorem preP_all:∀ (l:List Pt),preP l l.length=pairsOf l
 | []=>rfl
 | p::l=>by rw [List.length_cons,preP,pairsOf,preP_all l]
theorem preP_split:∀ {l:List Pt} {i:Nat},i≤l.length→pairsOf l=preP l i++pairsOf (l.drop i)
 | l,0,_=>by cases l<;>simp [preP]
 | [],_+1,h=>by simp at h
 | p::l,i+1,h=>by
  have:=preP_split (l:=l) (i:=i) (by simpa using h)
  simp only [preP,pairsOf,List.drop_succ_cons,List.append_assoc,← this]
theorem preP_in {l:List Pt} {i j:Nat} (hi:i<l.length) (hj:i+1+j<l.length):∃ post,(preP l i++((l.drop (i+1)).take j).map (fun q=>(l[i],q)))++(l[i],l[i+1+j])::post=pairsOf l:=by
 refine ⟨(l.drop (i+1+j+1)).map (fun q=>(l[i],q))++pairsOf (l.drop (i+1)),?_⟩
 have e1:=preP_split (l:=l) (i:=i) (by omega)
 have e2:l.drop i=l[i]::l.drop (i+1):=List.drop_eq_getElem_cons hi
 have e3:l.drop (i+1)=(l.drop (i+1)).take j++l[i+1+j]::l.drop (i+1+j+1):=by
  conv=>lhs;rw [← List.take_append_drop j (l.drop (i+1)),List.drop_drop,List.drop_eq_getElem_cons hj]
 have e4:(l.drop (i+1)).map (fun q=>(l[i],q))=((l.drop (i+1)).take j).map (fun q=>(l[i],q))++(l[i],l[i+1+j])::(l.drop (i+1+j+1)).map (fun q=>(l[i],q)):=by
  conv=>lhs;rw [e3]
  rw [List.map_append,List.map_cons]
 rw [e1,e2,pairsOf,e4]
 simp only [List.append_assoc,List.cons_append]
def SeqAll {α:Type} (n:Nat) (P:Program) (g:Nat) (lb:Array Value) (encs:α→Array Value) (Kp:World→World→Prop) (xs:List α) (w:World):Prop :=
 ∀ (lp:Nat) (J:List α→World→Prop) (W:World),Below w.heap.size w W→AbidesFrom W.heap.size J →
  (∀ pre x post W1,pre++x::post=xs→J pre W1→YieldAt Fence.wide (n-1) P lp (encs x) W1 fun e W'=>e=.returned (.bool true)∧J (pre++[x]) W'∧Kp W1 W')→J [] W →
  CallsIn Fence.wide n P g (#[.func (.yield lp) #[] #[]]++lb) W fun e W'=>(∃ v,e=.returned v)∧J xs W'
set_option maxRecDepth 100000 in
set_option maxHeartbeats 4000000 in
theorem pairs1_stops (l:List Pt) (n0 n c:Nat) (fv:Value) (w:World) (hl:l.length≤1000) (hbox:w.heap[c]? = some (.cells #[fv] 39 (0,0))) (hrep:Rep w (fun b=>n0≤b) (.list 3 (l.map Pt.c)) fv) (hn0:n0≤w.heap.size) (hn:1≤n) :
  SeqAll n Tryz.prog 237 #[.pointer (some ⟨c,0,none⟩)] (fun pq:Pt × Pt=>#[pq.1.v,pq.2.v]) (KeepT n0) (pairsOf l) w:=fun lp J W hbel hJ hY h0=>by
 have hcw:c<w.heap.size:=(Array.getElem?_eq_some_iff.1 hbox).1
 have hKW:∀ {k},k<w.heap.size→W.heap[k]? = w.heap[k]? := fun hk=>hbel.block _ hk
 have hbx:∀ {W':World},KeepT n0 W W'→W'.cell? ⟨c,0,none⟩=some fv:=fun hk=>by
  have e:=(hk.pt c _ _ _ ((hKW hcw).trans hbox) (.inr rfl)).trans ((hKW hcw).trans hbox)
  simp [World.cell?,e]
 generalize hd:D.list 3 (l.map Pt.c)=d at hrep
 cases hrep with
 | nil k x cp hm hx =>
  injection hd with hk hd
  subst hk
  have hl0:l=[]:=List.map_eq_nil_iff.1 hd
  subst hl0
  have hb0:=hbx (KeepT.refl n0 W)
  refine callsIn_of_wp Tryz.func237 rfl trivial ?_ rfl
  simp only [Tryz.ntmps237,List.size_toArray,List.length_cons,List.length_nil,Nat.reduceAdd,Nat.reduceSub,Array.replicate_succ,Array.replicate_zero,List.push_toArray,List.append_toArray,List.nil_append,List.cons_append]
  gi_wp2
  gi_loopw [10] (fun x W'=>x=.int .i64 0∧W'=W) (fun _ _=>0)
  case atStart=>exact ⟨rfl,rfl⟩
  case round =>
   obtain ⟨rfl,rfl⟩:=hrel
   gi_wp2
   go_end0
   exact ⟨⟨_,rfl⟩,h0⟩
 | @list b off cap k ll vs h1 h2 h3 h4 h5 h6 h7 =>
  injection hd with hk hd
  subst hk hd
  have hll:(l.map Pt.c).length=l.length:=List.length_map ..
  rw [hll] at h1 hbx
  have h3:b<n0:=Nat.lt_of_not_le h3
  have cell:∀ {W':World},KeepT n0 W W'→∀ (i:Nat) (h:i<l.length),W'.cell? ⟨b,off+i*3,none⟩=some (.int .i64 l[i].id)∧W'.cell? ⟨b,off+(i*3+1),none⟩=some (.int .i64 l[i].a)∧W'.cell? ⟨b,off+(i*3+2),none⟩=some (.int .i64 l[i].b):=fun {W'} hk i h=>by
   have hi:i<(l.map Pt.c).length:=by rw [hll];exact h
   have e:W'.heap[b]? = w.heap[b]? := (hk.low b h3).trans (hKW h4)
   have key:∀ (j:Nat) (v:Value) (hj:j<3),(l.map Pt.c)[i][j]'(by rw [h5 _ (List.getElem_mem hi)];exact hj)=.v v→W'.cell? ⟨b,off+(i*3+j),none⟩=some v:=fun j v hj hv=>by
    rw [World.cell?_of_block (w:=w) e,← Nat.add_assoc,h6 i j hi hj]
    have:=h7 i j hi (by rw [h5 _ (List.getElem_mem hi)];exact hj)
    rw [hv] at this
    cases this;rfl
   refine ⟨by have:=key 0 (.int .i64 l[i].id) (by omega) (by simp [Pt.c]);rwa [Nat.add_zero] at this,key 1 _ (by omega) (by simp [Pt.c]),key 2 _ (by omega) (by simp [Pt.c])⟩
  have hb0:=hbx (KeepT.refl n0 W)
  clear h6 h7
  refine callsIn_of_wp Tryz.func237 rfl trivial ?_ rfl
  simp only [Tryz.ntmps237,List.size_toArray,List.length_cons,List.length_nil,Nat.reduceAdd,Nat.reduceSub,Array.replicate_succ,Array.replicate_zero,List.push_toArray,List.append_toArray,List.nil_append,List.cons_append]
  gi_wp2
  gi_loopw [10] (fun x W'=>∃ i:Nat,x=.int .i64 i∧i≤l.length∧KeepT n0 W W'∧J (preP l i) W') (fun x _=>l.length-(intOf x).toNat)
  case atStart=>exact ⟨0,rfl,Nat.zero_le _,KeepT.refl n0 W,by cases l<;>exact h0⟩
  case round =>
   obtain ⟨i,rfl,hi,hkt,hJi⟩:=hrel
   obtain ⟨wo,hwo⟩:∃ wo,wo=wr:=⟨_,rfl⟩
   subst hwo
   rcases Nat.lt_or_ge i l.length with hlt|hge
   ·obtain ⟨q0,q1,q2⟩:=cell hkt i hlt
    have hb1:=hbx hkt
    have hsz:n0≤wo.heap.size:=Nat.le_trans (Nat.le_trans hn0 hbel.size) hkt.size
    have hk2:=hkt.trans (KeepT.alloc wo (.cells #[.int .i64 l[i].id,.int .i64 l[i].a,.int .i64 l[i].b] 43) hsz)
    have hb2:=hbx hk2
    have hw1:IntKind.i64.wrap ((i:Int)+1)=(i:Int)+1:=by rw [IntKind.wrap_i64];omega
    have hp1:(0:Int)≤(i:Int)+1:=by omega
    have hp2:((i:Int)+1).toNat=i+1:=by omega
    have hp3:(i:Int)+1≤(l.length:Int):=by omega
    have hp4:i+1≤l.length:=by omega
    have hgr:wo.grownBy (wo.alloc (.cells #[.int .i64 l[i].id,.int .i64 l[i].a,.int .i64 l[i].b] 43)) none:=World.grownBy_alloc wo _ none
    have hJ2:=hJ _ _ _ none hJi hgr (fun r e=>by cases e)
    have hpb:(wo.alloc (.cells #[.int .i64 l[i].id,.int .i64 l[i].a,.int .i64 l[i].b] 43)).heap[wo.heap.size]? = some (.cells #[.int .i64 l[i].id,.int .i64 l[i].a,.int .i64 l[i].b] 43 (0,0)):=World.alloc_heap_new wo _
    by_cases hcap:cap=i+1
    ·have hz:l.length-(i+1)=0:=by omega
     gi_wp2
     gi_loopw [21] (fun x W'=>x=.int .i64 0∧W'=wo.alloc (.cells #[.int .i64 l[i].id,.int .i64 l[i].a,.int .i64 l[i].b] 43)) (fun _ _=>0)
     case atStart=>exact ⟨rfl,rfl⟩
     case round =>
      obtain ⟨rfl,rfl⟩:=hrel
      gi_wp2
      go_roundw
      case rel=>exact ⟨i+1,by simp,hlt,hk2,by rw [preP_succ hlt,List.drop_eq_nil_of_le (by omega),List.map_nil,List.append_nil];exact hJ2⟩
      case measure=>show l.length-((i:Int)+1).toNat<l.length-((i:Int)).toNat;omega
    ·gi_wp2
     generalize hW2:wo.alloc (.cells #[.int .i64 l[i].id,.int .i64 l[i].a,.int .i64 l[i].b] 43)=W2 at *
     gi_loopw [21] (fun x W'=>∃ j:Nat,x=.int .i64 j∧j≤l.length-(i+1)∧KeepT n0 W2 W'∧J (preP l i++((l.drop (i+1)).take j).map (fun q=>(l[i],q))) W') (fun x _=>l.length-(i+1)-(intOf x).toNat)
     case atStart=>exact ⟨0,rfl,Nat.zero_le _,KeepT.refl n0 W2,by rw [List.take_zero,List.map_nil,List.append_nil];exact hJ2⟩
     case round =>
      obtain ⟨j,rfl,hj,hk3,hJ3⟩:=hrel
      have hsz3:n0≤wr.heap.size:=Nat.le_trans (Nat.le_trans hsz (by rw [← hW2];simp)) hk3.size
      rcases Nat.lt_or_ge j (l.length-(i+1)) with hjl|hjg
      ·have hij:i+1+j<l.length:=by omega
       obtain ⟨r0,r1,r2⟩:=cell (hk2.trans hk3) (i+1+j) hij
       obtain ⟨q,hq⟩:∃ q,l[i+1+j]=q:=⟨_,rfl⟩
       rw [hq] at r0 r1 r2
       have eo:(i+1+j)*3=(i+1)*3+j*3:=by rw [Nat.add_mul]
       rw [eo] at r0 r1 r2
       rw [Nat.add_assoc ((i+1)*3)] at r1 r2
       have hpb3:=(hk3.pt _ _ _ _ hpb (.inl rfl)).trans hpb
       have hpw:wo.heap.size<wr.heap.size:=(Array.getElem?_eq_some_iff.1 hpb3).1
       have hk4:=hk3.trans (KeepT.alloc wr (.cells #[.int .i64 q.id,.int .i64 q.a,.int .i64 q.b] 43) hsz3)
       have hJ4:=hJ _ _ _ none hJ3 (World.grownBy_alloc wr (.cells #[.int .i64 q.id,.int .i64 q.a,.int .i64 q.b] 43) none) (fun r e=>by cases e)
       have hpb4:=(hk4.pt _ _ _ _ hpb (.inl rfl)).trans hpb
       have p0:(wr.alloc (.cells #[.int .i64 q.id,.int .i64 q.a,.int .i64 q.b] 43)).cell? ⟨wo.heap.size,0,none⟩=some (.int .i64 l[i].id):=by simp only [World.cell?,hpb4];rfl
       have p1:(wr.alloc (.cells #[.int .i64 q.id,.int .i64 q.a,.int .i64 q.b] 43)).cell? ⟨wo.heap.size,1,none⟩=some (.int .i64 l[i].a):=by simp only [World.cell?,hpb4];rfl
       have p2:(wr.alloc (.cells #[.int .i64 q.id,.int .i64 q.a,.int .i64 q.b] 43)).cell? ⟨wo.heap.size,2,none⟩=some (.int .i64 l[i].b):=by simp only [World.cell?,hpb4];rfl
       obtain ⟨post,hpost⟩:=preP_in hlt hij
       rw [hq] at hpost
       obtain ⟨fn,tmps,assign,body,hy,hR⟩:=hY _ (l[i],q) post _ hpost hJ4
       dsimp only [Pt.v] at hy
       gi_wp2
       refine hR.mono ?_
       rintro e W3 ⟨rfl,hJ5,hk5⟩
       ·gi_wp2
        go_roundw
        case rel =>
         refine ⟨j+1,by simp,hjl,hk4.trans hk5,?_⟩
         rw [List.append_assoc] at hJ5
         have:((l.drop (i+1)).take (j+1)).map (fun q=>(l[i],q))=((l.drop (i+1)).take j).map (fun q=>(l[i],q))++[(l[i],q)]:=by
          rw [List.take_succ_eq_append_getElem (by rw [List.length_drop];exact hjl),List.map_append,List.getElem_drop,hq];rfl
         rw [this];exact hJ5
        case measure=>show l.length-(i+1)-((j:Int)+1).toNat<l.length-(i+1)-((j:Int)).toNat;omega
      ·have hje:j=l.length-(i+1):=by omega
       gi_wp2
       go_roundw
       case rel =>
        refine ⟨i+1,by simp,hlt,hk2.trans hk3,?_⟩
        rw [List.take_of_length_le (by rw [List.length_drop];omega)] at hJ3
        rw [preP_succ hlt];exact hJ3
       case measure=>show l.length-((i:Int)+1).toNat<l.length-((i:Int)).toNat;omega
   ·obtain rfl:i=l.length:=by omega
    gi_wp2
    go_end0
    exact ⟨⟨_,rfl⟩,by rw [← preP_all l];exact hJi⟩
 | _=>cases hd
end Go.Proofs.YtfkfficabeclcaaGreatDoor
