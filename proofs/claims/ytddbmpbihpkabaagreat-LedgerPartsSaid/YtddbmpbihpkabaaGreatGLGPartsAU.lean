import Derived.Test.YtddbmpbihpkabaaGreatGLGPartsAT
import Derived.Deep.RegionLaw
import Derived.RangeFuncFrom
import Derived.RangeFuncLeaves
import Derived.WalkKit
import Derived.OwnWalkIn
import Derived.TacticsInMore
import Derived.RegionIn
import Derived.LoopNIn
import Derived.LoopIn
import Derived.RangeFuncCalls
set_option linter.all false
namespace Go.Proofs.YtddbmpbihpkabaaGreat
open Go Go.RowKit Go.Sort Sx
theorem setCells_oth {w:World} {b o:Nat} {us vs:List Value} (hc:CellsAt w b us) (h1:∀ v∈vs,v.oneCell'=true) (hl:o+vs.length≤us.length):Oth b w (w.setCells b o vs)∧CellsAt (w.setCells b o vs) b (Sx.setL us o vs):=by
 obtain ⟨w',hr,e1,e2⟩:=run_storeOth (P:=Tryz.prog) hc h1 hl
 obtain ⟨T,hT⟩:=id hc
 have:=run_storeCells_cells (P:=Tryz.prog) b o vs 0 w (fun j hj=>by rw [Nat.add_zero,cell_of hc,List.getElem?_eq_getElem (by omega)];rfl) (fun j hj=>frozen_of_row w b _ us.toArray T hT) h1
 rw [hr] at this
 injection this with _ this
 rw [Nat.add_zero] at this
 rw [← this]
 exact ⟨e1,e2⟩
set_option maxHeartbeats 4000000 in
set_option maxRecDepth 100000 in
theorem del_one (b n c i j:Nat) (us:List Value) (w:World) (hc:CellsAt w b us) (hus:us.length=c*3) (hone:∀ v∈us.take (n*3),v.oneCell'=true) (hij:i<j) (hj1:j≤i+1) (hjn:j≤n) (hnc:n≤c) (hc63:c≤9223372036854775807) :
  Calls Tryz.prog 78 #[.slice (some ⟨b,0,none⟩) n c,.int .i64 i,.int .i64 j] w fun e w' =>
   ∃ zs,e=.returned (.slice (some ⟨b,0,none⟩) (i+(n-j)) c)∧Oth b w w'∧zs.length=3∧CellsAt w' b (Sx.setL (Sx.setL us (i*3) ((us.drop (j*3)).take ((n-j)*3))) ((i+(n-j))*3) zs):=by
 have mixed:Tryz.prog.follows .mixedOrders=true:=by kernel_rfl
 obtain ⟨e,he,hsz,_,_,ti,z,hi0,hsz0,hz0,hzs,_,hby⟩:=(ty_ok 24 (.sl 3 true [.v (.int .i64 0),.v (.int .i64 0),.v (.int .i64 0)]) rfl).2.2.2
 have hee:e=49:=by
  have:=he.symm.trans Tryz.underlying24
  injection this with this;injection this
 subst hee
 obtain ⟨news,hnews⟩:∃ news,news=(us.drop (j*3)).take ((n-j)*3):=⟨_,rfl⟩
 have hlen:news.length=(n-j)*3:=by rw [hnews,List.length_take,List.length_drop,hus];omega
 have hget:∀ t u,news[t]? = some u→us[j*3+t]? = some u:=fun t u ht=>by
  rw [hnews,List.getElem?_take] at ht
  split at ht
  ·rw [List.getElem?_drop] at ht;exact ht
  ·cases ht
 have s2:Hid (∀ u∈news,u.oneCell'=true):=Lib.hid (fun v hv=>hone v (by
  have:(us.drop (j*3)).take ((n-j)*3)=(us.take (n*3)).drop (j*3):=by rw [List.drop_take];congr 1;omega
  rw [hnews,this] at hv;exact List.mem_of_mem_drop hv))
 obtain ⟨A,hA,hsrc⟩:∃ A:Addr,(if c=j then (some ⟨b,0,none⟩:Option Addr) else some ⟨b,j*3,none⟩)=some A∧Hid (∀ t u,news[t]? = some u→w.drew.cell? (A.add t)=some u):=by
  by_cases h:c=j
  ·refine ⟨⟨b,0,none⟩,by simp [h],Lib.hid fun t u hu => ?_⟩
   have h0:news.length=0:=by rw [hlen];omega
   rw [List.length_eq_zero_iff.1 h0] at hu
   simp at hu
  ·refine ⟨⟨b,j*3,none⟩,by simp [h],Lib.hid fun t u hu => ?_⟩
   rw [add_plain,drew_cell,cell_of hc]
   exact hget t u hu
 obtain ⟨o1,c1⟩:=setCells_oth (w:=w.drew) (o:=i*3) hc s2.out (by rw [hlen,hus];omega)
 obtain ⟨T,hT⟩:=id hc
 have s1:Hid (news.length=(n-j)*3):=Lib.hid hlen
 have s3:Hid (∀ t,t<news.length→(w.drew.cell? ⟨b,0+i*3+t,none⟩).isSome=true∧w.drew.frozen? ⟨b,0+i*3+t,none⟩=false):=Lib.hid fun t ht =>
  ⟨by rw [drew_cell,cell_of hc,List.getElem?_eq_getElem (by rw [hlen] at ht;rw [hus];omega)];rfl,frozen_of_row w b _ us.toArray T hT⟩
 obtain ⟨W1,hW1⟩:∃ W1,W1=w.drew.setCells b (0+i*3) news:=⟨_,rfl⟩
 have hW:Hid (W1=w.drew.setCells b (0+i*3) news):=Lib.hid hW1
 rw [← Nat.zero_add (i*3),← hW1] at o1 c1
 rw [Nat.zero_add] at c1
 obtain ⟨w2,hr2,o2,c2⟩:=run_clearK (P:=Tryz.prog) (w:=W1) (t:=24) (e:=49) (ty:=0) (k:=3) (b:=b) (o:=(i+(n-j))*3) (n:=1) (c:=c-(i+(n-j))) Tryz.underlying24 Tryz.zeroValue49 rfl (by decide) c1 (by rw [setL_length,hus];omega)
 have hn1:n-(i+(n-j))=1:=by omega
 have hlz:(List.replicate 1 (Value.agg #[.int .i64 0,.int .i64 0,.int .i64 0]).cells.toList).flatten.length=3:=rfl
 have hic:i≤c:=by omega
 have hjc:j≤c:=by omega
 have hne:¬ ((i:Int)=(j:Int)):=by omega
 have FIN:Hid (Oth b w w2):=Lib.hid (((Oth.drew b w).trans o1).trans o2)
 rw [← hnews]
 clear hone hnews hget hlen hW1
 go_enter Tryz.func78,Tryz.ntmps78
 go_wp2_with fail
 go_region_law_o (refine step_append_room rfl (.tmp 22) (.tmp 25) 24 rfl 49 ti 3 Tryz.underlying24 hi0 hsz0 b 0 i c (by simp [Act.eval,Act.put]) A (n-j) (c-j) news (by simp [Act.eval,Act.put]) s1.out hsrc.out s2.out (by omega) s3.out ?_;rw [← hW.out])
 go_wp2
 go_ret
 exact ⟨_,rfl,FIN.out,hlz,c2⟩
end Go.Proofs.YtddbmpbihpkabaaGreat

namespace Go.Proofs.YtddbmpbihpkabaaGreat
open Go Go.RowKit Go.Sort Sx
theorem DsR_take {w:World} {M:Nat→Prop} {a:List D} {u:List Value} (n:Nat) (h:DsR w M a u):DsR w M (a.take n) (u.take n):=by
 have:=AtsR.take (ρ:=fun _=>default) n (DsR.ats.1 h)
 rw [← List.map_take] at this
 exact DsR.ats.2 this
theorem DsR_drop {w:World} {M:Nat→Prop} {a:List D} {u:List Value} (n:Nat) (h:DsR w M a u):DsR w M (a.drop n) (u.drop n):=by
 have:=AtsR.drop (ρ:=fun _=>default) n (DsR.ats.1 h)
 rw [← List.map_drop] at this
 exact DsR.ats.2 this
theorem flat_take {α:Type} {k:Nat}:∀ {l:List (List α)} (i:Nat),(∀ x∈l,x.length=k)→(l.take i).flatten=l.flatten.take (i*k)∧(l.drop i).flatten=l.flatten.drop (i*k)
 | [],i,_=>by simp
 | x::l,0,h=>by simp
 | x::l,i+1,h=>by
  have hx:=h x (List.mem_cons_self ..)
  obtain ⟨h1,h2⟩:=flat_take (l:=l) i fun y hy=>h y (List.mem_cons_of_mem _ hy)
  have e:(i+1)*k=x.length+i*k:=by rw [hx,Nat.add_mul];omega
  rw [e]
  constructor
  ·rw [List.take_succ_cons,List.flatten_cons,List.flatten_cons,h1,List.take_length_add_append]
  ·rw [List.drop_succ_cons,List.flatten_cons,h2,List.drop_length_add_append]
theorem row_blk {w':World} {M:Nat→Prop} {b cap v k:Nat} {l:List (List D)} {vs rest:List Value} (hk:∀ x∈l,x.length=k) (hc:CellsAt w' b (vs++rest)) (hD:DsR w' M l.flatten vs) (hlen:(vs++rest).length=cap*k) (hlc:l.length≤cap) (hcap:0<cap) (hc63:cap≤9223372036854775807) :
  BlkR (fun _=>⟨false,b,cap,l.length,v⟩) w' M ⟨false,b,cap,l.length,v⟩ (.row k l v) :=
 ⟨⟨hk,rfl,fun h=>absurd h (by show ¬ cap=0;omega),rfl,rfl⟩,fun _=>⟨_,hc,hlc,hc63,hlen,vs,rest,rfl,hD⟩⟩
theorem Oth.belowC {b:Nat} {C:Nat→Prop} {n:Nat} {w w':World} (h:Oth b w w') (hb:b<n→C b) (hd:C n∨w.drawn≤w'.drawn):BelowC C n w w' :=
 ⟨h.os,h.tape,h.output,Nat.le_of_eq h.size.symm,fun k hk hC=>h.other k fun e=>hC (by rw [e];exact hb (by omega)),hd⟩
theorem setL_at {α:Type} {p q ds:List α} {o:Nat} (ho:p.length=o) (h:ds.length≤q.length):Sx.setL (p++q) o ds=p++(ds++q.drop ds.length):=by
 have:=setL_skip p q 0 ds
 rw [Nat.add_zero,ho] at this
 rw [this,setL_eq q 0 ds (by omega)]
 simp
theorem drop3 {α:Type} {B Y:List α} (hB:B.length=3):(B++Y).drop 3=Y:=by rw [← hB];exact List.drop_left
theorem cut3 {α:Type} (us:List α) (i:Nat) (h:(i+1)*3≤us.length):∃ A B Q,us=A++(B++Q)∧A.length=i*3∧B.length=3∧A=us.take (i*3) :=
 ⟨us.take (i*3),(us.drop (i*3)).take 3,(us.drop (i*3)).drop 3,by rw [List.take_append_drop,List.take_append_drop],by rw [List.length_take];omega,by rw [List.length_take,List.length_drop];omega,rfl⟩
theorem vs_part {us vs rest:List Value} {n i:Nat} (hus:us=vs++rest) (hv:vs.length=n*3) (hi:i≤n):(us.drop (i*3)).take ((n-i)*3)=vs.drop (i*3)∧us.take (i*3)=vs.take (i*3)∧(vs.drop (i*3)).length=(n-i)*3:=by
 refine ⟨?_,?_,by rw [List.length_drop];omega⟩
 ·rw [hus,List.drop_append_of_le_length (by omega),List.take_append_of_le_length (by rw [List.length_drop];omega),List.take_of_length_le (by rw [List.length_drop];omega)]
 ·rw [hus,List.take_append_of_le_length (by omega)]
theorem ins_cells {us vs rest xs:List Value} {n i:Nat} (hus:us=vs++rest) (hv:vs.length=n*3) (hx:xs.length=3) (hi:i≤n) (hr:(n+1)*3≤us.length) :
  ∃ rest',Sx.setL (Sx.setL us ((i+1)*3) ((us.drop (i*3)).take ((n-i)*3))) (i*3) xs=(vs.take (i*3)++(xs++vs.drop (i*3)))++rest':=by
 obtain ⟨e1,e2,l1⟩:=vs_part hus hv hi
 rw [e1]
 obtain ⟨A,B,Q,e,hA,hB,hAe⟩:=cut3 us i (by omega)
 have hQ:us.length=A.length+(B.length+Q.length):=by rw [e];simp
 rw [e,← List.append_assoc,setL_at (p:=A++B) (by rw [List.length_append];omega) (by omega),List.append_assoc,setL_at hA (by rw [List.length_append];omega),hx,drop3 hB,hAe,e2]
 exact ⟨Q.drop (vs.drop (i*3)).length,by simp only [List.append_assoc]⟩
theorem grow_cells {row us vs rest xs:List Value} {n i:Nat} (hus:us=vs++rest) (hv:vs.length=n*3) (hx:xs.length=3) (hi:i≤n) (hr:(n+1)*3≤row.length) (ht:row.take (i*3)=us.take (i*3)) :
  ∃ rest',Sx.setL (Sx.setL row (i*3) xs) ((i+1)*3) ((us.drop (i*3)).take ((n-i)*3))=(vs.take (i*3)++(xs++vs.drop (i*3)))++rest':=by
 obtain ⟨e1,e2,l1⟩:=vs_part hus hv hi
 rw [e1]
 obtain ⟨A,B,Q,e,hA,hB,hAe⟩:=cut3 row i (by omega)
 have hQ:row.length=A.length+(B.length+Q.length):=by rw [e];simp
 rw [e,setL_at hA (by rw [List.length_append];omega),hx,drop3 hB,← List.append_assoc,setL_at (p:=A++xs) (by rw [List.length_append];omega) (by omega),hAe,ht,e2]
 exact ⟨Q.drop (vs.drop (i*3)).length,by simp only [List.append_assoc]⟩
theorem del_cells {us vs rest zs:List Value} {n i:Nat} (hus:us=vs++rest) (hv:vs.length=n*3) (hz:zs.length=3) (hi:i<n) :
  ∃ rest',Sx.setL (Sx.setL us (i*3) ((us.drop ((i+1)*3)).take ((n-(i+1))*3))) ((i+(n-(i+1)))*3) zs=(vs.take (i*3)++vs.drop ((i+1)*3))++rest':=by
 obtain ⟨e1,_,l1⟩:=vs_part (i:=i+1) hus hv hi
 obtain ⟨_,e2,_⟩:=vs_part (i:=i) hus hv (by omega)
 have hul:n*3≤us.length:=by rw [hus,List.length_append];omega
 rw [e1]
 obtain ⟨A,B,Q,e,hA,hB,hAe⟩:=cut3 us i (by omega)
 have hQ:us.length=A.length+(B.length+Q.length):=by rw [e];simp
 rw [e,setL_at hA (by rw [List.length_append];omega),← List.append_assoc A,setL_at (p:=A++vs.drop ((i+1)*3)) (by rw [List.length_append];omega) (by rw [List.length_drop,List.length_append];omega),hAe,e2]
 exact ⟨_,rfl⟩
theorem insPt_con (l:List (List D)) (x:List D) (i:Nat) (hi:i≤l.length) (hl:l.length≤1000) (hf:∀ e∈l,flatL e=true) (hx:flatL x=true) (hx3:x.length=3) :
  FnCon Tryz.prog 76 3 l [.one (.v (.int .i64 i)),.one (.list 3 [x])] (l.take i++x::l.drop i):=by
 have hfl:∀ e∈l.take i++x::l.drop i,flatL e=true:=fun e he=>by
  rcases List.mem_append.1 he with he|he
  ·exact hf e (List.mem_of_mem_take he)
  ·rcases List.mem_cons.1 he with rfl|he
   ·exact hx
   ·exact hf e (List.mem_of_mem_drop he)
 have hfla:flatL (l.take i++x::l.drop i).flatten=true:=flat_flatten hfl
 refine ⟨hfl,fun w M v vs m hM hmM hvs hB hv => ?_⟩
 match vs,hvs with
 | [u1,u2],⟨hu1,hu2,_⟩ =>
  obtain ⟨⟨k1,k2,k3,k4,k5⟩,hreal⟩:=hB
  obtain ⟨ad,rfl,had⟩:=hv
  have hu1:Rep w M (.v (.int .i64 i)) u1:=hu1
  have hu2:Rep w M (.list 3 [x]) u2:=hu2
  have:=rep_int' hu1
  subst this
  refine ⟨76,Tryz.call76 _ _,?_⟩
  generalize hl0:[x]=lx at hu2
  cases hu2 with
  | nil=>cases hl0
  | @list vb vo vc _ _ ws q1 q2 q3 q4 q5 q6 q7 =>
   subst hl0
   obtain ⟨xs,hxs⟩:∃ xs:List Value,xs=(List.range 3).map (ws 0):=⟨_,rfl⟩
   have lxs:xs.length=3:=by rw [hxs];rfl
   have xget:∀ j u,xs[j]? = some u→w.cell? ⟨vb,vo+j,none⟩=some u:=fun j u hj=>by
    have hj3:j<3:=by rw [← lxs];exact (List.getElem?_eq_some_iff.1 hj).1
    rw [hxs,List.getElem?_map,List.getElem?_range hj3] at hj
    have:=q6 0 j (by simp) hj3
    simp only [Nat.zero_mul,Nat.add_zero] at this
    rw [this];exact hj
   have xD:DsR w M x xs:=DsR.of_get (by rw [lxs,hx3]) fun j y u h1 h2=>by
    have hj3:j<3:=by rw [← lxs];exact (List.getElem?_eq_some_iff.1 h2).1
    rw [hxs,List.getElem?_map,List.getElem?_range hj3] at h2
    have:=q7 0 j (by simp) (by simp;omega)
    have e:x[j]? = some (([x]:List (List D))[0][j]'(by simp;omega)):=by simp
    rw [e] at h1
    injection h1 with h1
    injection h2 with h2
    rw [← h1,← h2];exact this
   have hlen1:∀ e∈l.take i++x::l.drop i,e.length=3:=fun e he=>by
    rcases List.mem_append.1 he with he|he
    ·exact k1 e (List.mem_of_mem_take he)
    ·rcases List.mem_cons.1 he with rfl|he
     ·exact hx3
     ·exact k1 e (List.mem_of_mem_drop he)
   have hll:(l.take i++x::l.drop i).length=l.length+1:=by simp;omega
   have hls:([x]:List (List D)).length=1:=rfl
   rw [← k2]
   have data:∀ {vs:List Value},DsR w M l.flatten vs→DsR w M (l.take i++x::l.drop i).flatten (vs.take (i*3)++(xs++vs.drop (i*3))):=fun {vs} h=>by
    obtain ⟨f1,f2⟩:=flat_take i k1
    rw [List.flatten_append,List.flatten_cons,f1,f2]
    exact (DsR_take _ h).append (xD.append (DsR_drop _ h))
   rcases Nat.lt_or_ge i l.length with hil|hil
   ·have hcap:0<m.cap:=by
     rcases Nat.eq_zero_or_pos m.cap with h|h
     ·have:=k3 h;subst this;simp at hil
     ·exact h
    obtain ⟨us,hc,c1,c2,c3,vs,rest,c4,c5⟩:=hreal (by simpa [Blk.real] using hcap)
    have hvl:vs.length=l.length*3:=by rw [c5.length,flatten_len k1]
    have hone:∀ v∈us.take (l.length*3),v.oneCell'=true:=by
     rw [c4,← hvl,List.take_left];exact c5.one
    have hvb:vb≠m.b:=fun e=>q3 (by rw [e];exact hmM hcap)
    rw [had hcap]
    by_cases hroom:l.length+1≤m.cap
    ·refine (ins_shift m.b l.length m.cap i vb vo vc us xs w hc c3 hone hil hroom c2 hvb lxs xD.one xget).mono ?_
     rintro e w' ⟨rfl,o1,cc⟩
     obtain ⟨rest',er⟩:=ins_cells c4 hvl lxs hi (by rw [c3];omega)
     rw [er] at cc
     refine ⟨_,⟨false,m.b,m.cap,(l.take i++x::l.drop i).length,m.ver⟩,rfl,rfl,o1.belowC (fun _=>⟨hcap,rfl⟩) ?_,fun _=>.inl ⟨hcap,rfl⟩,?_,_,by rw [hll],fun _=>rfl⟩
     ·exact .inr o1.drawn
     ·exact row_blk hlen1 cc (flatL_rel hfla (data c5)) (by have:=congrArg List.length er;rw [setL_length,setL_length] at this;omega) (by omega) hcap c2
    ·refine (ins_grow m.b l.length m.cap i vb vo vc us xs w hc c3 hone hil c1 (by omega) (by omega) lxs xD.one xget).mono ?_
     rintro e w' ⟨g,row,rfl,g1,g2,g3,⟨g4,g5⟩,g6,cc,g7⟩
     obtain ⟨rest',er⟩:=grow_cells c4 hvl lxs hi (by rw [g6];omega) g7
     rw [er] at cc
     refine ⟨_,⟨false,w.heap.size,g,(l.take i++x::l.drop i).length,m.ver⟩,rfl,rfl,BelowC.of_below g3 (Nat.le_refl _) (.inr g5),fun _=>.inr ⟨Nat.le_refl _,g4⟩,?_,_,by rw [hll],fun _=>rfl⟩
     exact row_blk hlen1 cc (flatL_rel hfla (data c5)) (by have:=congrArg List.length er;rw [setL_length,setL_length] at this;omega) (by omega) (by omega) g2
   ·have hie:i=l.length:=by omega
    subst hie
    have hcl:l.length≤m.cap∧m.cap≤9223372036854775807:=by
     rcases Nat.eq_zero_or_pos m.cap with h|h
     ·have:=k3 h;rw [this,h];simp
     ·obtain ⟨us,hc,c1,c2,_⟩:=hreal (by simpa [Blk.real] using h);exact ⟨c1,c2⟩
    obtain ⟨e,he,hsz,_,_,ti,z,hi0,hsz0,hz0,hzs,_,hby⟩:=(ty_ok 24 (.sl 3 true [.v (.int .i64 0),.v (.int .i64 0),.v (.int .i64 0)]) rfl).2.2.2
    have hS:Src Tryz.prog ti.size 24 (.slice (some ⟨vb,vo,none⟩) 1 vc) 1 xs w:=by
     rw [hsz0]
     exact Src.ofSlice w Tryz.underlying24 ⟨vb,vo,none⟩ 1 vc xs (by rw [lxs]) (fun j u hj=>by rw [add_plain];exact xget j u hj) xD.one
    by_cases hroom:l.length+1≤m.cap
    ·have hcap:0<m.cap:=by omega
     obtain ⟨us,hc,c1,c2,c3,vs,rest,c4,c5⟩:=hreal (by simpa [Blk.real] using hcap)
     have hvl:vs.length=l.length*3:=by rw [c5.length,flatten_len k1]
     rw [had hcap]
     obtain ⟨T,hT⟩:=id hc
     obtain ⟨o1,cc⟩:=setCells_oth (w:=w) (o:=0+l.length*ti.size) hc xD.one (by rw [hsz0,lxs,c3];omega)
     refine (ins_end _ l.length m.cap vb vo vc _ w _ c1 c2 (fun ty=>run_append_room_src (P:=Tryz.prog) w 24 24 ty e ti he hi0 m.b 0 l.length m.cap _ 1 xs hS hroom
      (fun j hj=>by rw [hsz0,Nat.zero_add,cell_of hc,List.getElem?_eq_getElem (by rw [c3];omega)];rfl) (fun j hj=>frozen_of_row w m.b _ us.toArray T hT))).mono ?_
     rintro e w' ⟨rfl,rfl⟩
     rw [hsz0,Nat.zero_add] at o1 cc ⊢
     have er:Sx.setL us (l.length*3) xs=(vs.take (l.length*3)++(xs++vs.drop (l.length*3)))++rest.drop 3:=by
      rw [c4,setL_at hvl (by have:=congrArg List.length c4;rw [List.length_append] at this;omega),← hvl,List.take_length,List.drop_length,List.append_nil,lxs,List.append_assoc]
     have er2:=congrArg List.length er
     rw [setL_length] at er2
     rw [er] at cc
     refine ⟨_,⟨false,m.b,m.cap,(l.take l.length++x::l.drop l.length).length,m.ver⟩,rfl,rfl,o1.belowC (fun _=>⟨hcap,rfl⟩) (.inr o1.drawn),fun _=>.inl ⟨hcap,rfl⟩,?_,_,by rw [hll],fun _=>rfl⟩
     exact row_blk hlen1 cc (flatL_rel hfla (data c5)) (by omega) (by omega) hcap c2
    ·have hold:∃ olds,(Builtin.firstCells ti.size l.length (.slice ad l.length m.cap)).run Tryz.prog w.drew=.ok olds.toArray w.drew∧DsR w M l.flatten olds:=by
      rcases Nat.eq_zero_or_pos m.cap with h|h
      ·have:=k3 h
       subst this
       refine ⟨[],?_,trivial⟩
       cases ad with
       | none=>exact run_firstCells_none w.drew ti.size 0 0 _
       | some ad=>exact run_firstCells_some w.drew ti.size 0 ad 0 _ [] (by simp) (by simp)
      ·obtain ⟨cs,hcs,c1,c2,c3,vs,rest,c4,c5⟩:=hreal (by simpa [Blk.real] using h)
       rw [had h]
       refine ⟨vs,run_firstCells_some w.drew ti.size l.length _ _ _ vs (by rw [hsz0,c5.length,flatten_len k1]) (fun j u hj => ?_),c5⟩
       rw [add_plain,Nat.zero_add,drew_cell,cell_of hcs,c4,List.getElem?_append_left (List.getElem?_eq_some_iff.1 hj).1]
       exact hj
     obtain ⟨olds,hold,hDo⟩:=hold
     obtain ⟨cs,hcs,c1,c2,c3,vs,rest,c4,c5⟩:=grown_row (ρ:=fun _=>m) (M:=M) (w:=w) (k:=3) (e:=e) (l:=l) (xs:=[x]) (olds:=olds) (news:=xs) (old:=m.cap) hzs hDo (by simpa using xD) k1 (by simpa using hx3) (by simp;omega)
     have c1:(l++[x]).length≤grownCap w (l.length+1) m.cap e:=c1
     have c2:grownCap w (l.length+1) m.cap e≤9223372036854775807:=c2
     have c3:cs.length=grownCap w (l.length+1) m.cap e*3:=c3
     have hl1:(l++[x]).length=l.length+1:=by simp
     refine (ins_end ad l.length m.cap vb vo vc (.slice (some ⟨w.heap.size,0,none⟩) (l.length+1) (grownCap w (l.length+1) m.cap e)) w (w.drew.alloc (.cells cs.toArray e)) hcl.1 hcl.2 (fun ty=>by
      have hg:=run_append_grow_src (P:=Tryz.prog) w 24 24 ty e ti z he hi0 hz0 ad l.length m.cap olds hold _ 1 xs hS (by omega) (by omega) (growfits (by omega) (by omega) hby)
      rw [← hcs];exact hg)).mono ?_
     rintro e' w' ⟨rfl,rfl⟩
     have hbl:Below w.heap.size w (w.drew.alloc (.cells cs.toArray e)):=below_drew_alloc w _
     have elist:l.take l.length++x::l.drop l.length=l++[x]:=by simp
     rw [elist] at hfla hlen1 ⊢
     refine ⟨_,⟨false,w.heap.size,grownCap w (l.length+1) m.cap e,(l++[x]).length,m.ver⟩,rfl,rfl,BelowC.of_below hbl (Nat.le_refl _) (.inr (Nat.le_succ _)),fun _=>.inr ⟨Nat.le_refl _,by simp⟩,?_,_,by rw [hl1],fun _=>rfl⟩
     rw [c4] at c3
     exact row_blk hlen1 ⟨e,by rw [← c4];exact heap_alloc_new w.drew _⟩ (flatL_rel hfla c5) c3 c1 (by omega) c2
theorem delPt_con (l:List (List D)) (i:Nat) (hi:i<l.length) (hl:l.length≤1000) (hf:∀ e∈l,flatL e=true) :
  FnCon Tryz.prog 78 3 l [.one (.v (.int .i64 i)),.one (.v (.int .i64 (i+1:Nat)))] (l.take i++l.drop (i+1)):=by
 have hfl:∀ e∈l.take i++l.drop (i+1),flatL e=true:=fun e he=>by
  rcases List.mem_append.1 he with he|he
  ·exact hf e (List.mem_of_mem_take he)
  ·exact hf e (List.mem_of_mem_drop he)
 have hfla:flatL (l.take i++l.drop (i+1)).flatten=true:=flat_flatten hfl
 refine ⟨hfl,fun w M v vs m hM hmM hvs hB hv => ?_⟩
 match vs,hvs with
 | [u1,u2],⟨hu1,hu2,_⟩ =>
  obtain ⟨⟨k1,k2,k3,k4,k5⟩,hreal⟩:=hB
  obtain ⟨ad,rfl,had⟩:=hv
  have hu1:Rep w M (.v (.int .i64 i)) u1:=hu1
  have hu2:Rep w M (.v (.int .i64 (i+1:Nat))) u2:=hu2
  have:=rep_int' hu1
  subst this
  have:=rep_int' hu2
  subst this
  refine ⟨78,Tryz.call78 _ _,?_⟩
  have hcap:0<m.cap:=by
   rcases Nat.eq_zero_or_pos m.cap with h|h
   ·have:=k3 h;subst this;simp at hi
   ·exact h
  obtain ⟨us,hc,c1,c2,c3,vs,rest,c4,c5⟩:=hreal (by simpa [Blk.real] using hcap)
  have hvl:vs.length=l.length*3:=by rw [c5.length,flatten_len k1]
  have hone:∀ v∈us.take (l.length*3),v.oneCell'=true:=by
   rw [c4,← hvl,List.take_left];exact c5.one
  have hlen1:∀ e∈l.take i++l.drop (i+1),e.length=3:=fun e he=>by
   rcases List.mem_append.1 he with he|he
   ·exact k1 e (List.mem_of_mem_take he)
   ·exact k1 e (List.mem_of_mem_drop he)
  have hll:(l.take i++l.drop (i+1)).length=i+(l.length-(i+1)):=by simp;omega
  have data:DsR w M (l.take i++l.drop (i+1)).flatten (vs.take (i*3)++vs.drop ((i+1)*3)):=by
   rw [List.flatten_append,(flat_take i k1).1,(flat_take (i+1) k1).2]
   exact (DsR_take _ c5).append (DsR_drop _ c5)
  rw [had hcap,← k2]
  refine (del_one m.b l.length m.cap i (i+1) us w hc c3 hone (by omega) (Nat.le_refl _) (by omega) c1 c2).mono ?_
  rintro e w' ⟨zs,rfl,o1,hz,cc⟩
  obtain ⟨rest',er⟩:=del_cells c4 hvl hz hi
  rw [er] at cc
  refine ⟨_,⟨false,m.b,m.cap,(l.take i++l.drop (i+1)).length,m.ver⟩,rfl,rfl,o1.belowC (fun _=>⟨hcap,rfl⟩) (.inr o1.drawn),fun _=>.inl ⟨hcap,rfl⟩,?_,_,by rw [hll],fun _=>rfl⟩
  exact row_blk hlen1 cc (flatL_rel hfla data) (by have:=congrArg List.length er;rw [setL_length,setL_length] at this;omega) (by omega) hcap c2
end Go.Proofs.YtddbmpbihpkabaaGreat

namespace Go.Proofs.YtddbmpbihpkabaaGreat
open Go Go.RowKit Go.Sort Sx
set_option maxRecDepth 2000
theorem flat_pts (l:List Pt):∀ e∈l.map Pt.c,flatL e=true:=fun e he=>by
 obtain ⟨p,_,rfl⟩:=List.mem_map.1 he
 rfl
theorem insPt_pts (l:List Pt) (p:Pt) (hl:l.length≤1000):FnCon Tryz.prog 76 3 (l.map Pt.c) [.one (i64 (pos l p.id:Nat)),.one (.list 3 [[i64 p.id,i64 p.a,i64 p.b]])] ((insP l p).map Pt.c):=by
 have h:=insPt_con (l.map Pt.c) p.c (pos l p.id) (by rw [List.length_map];exact pos_le l p.id) (by rw [List.length_map];exact hl) (flat_pts l) rfl rfl
 have e:(l.map Pt.c).take (pos l p.id)++p.c::(l.map Pt.c).drop (pos l p.id)=(insP l p).map Pt.c:=by
  unfold insP;rw [List.map_append,List.map_cons,List.map_take,List.map_drop]
 rwa [e] at h
theorem fPut_fn (l:List Pt) (p:Pt):FnOK Tryz.prog 50 [fld l,p.dc] (retFl (putV l p)):=by
 have H1:=fCheck_fn l
 have H2:=kCheck_fn p.id p.a p.b
 unfold putV
 by_cases h1:fchk l=0
 ·obtain ⟨k1,k2,k3⟩:=fchk_ok h1
  have H3:=ffind_fn l p.id k3 (by omega)
  rw [if_pos h1]
  rw [h1] at H1
  by_cases h2:p.chk=0
  ·rw [if_pos h2]
   unfold Pt.chk at h2
   rw [h2] at H2
   cases hh:has l p.id
   ·rw [hh] at H3
    rw [if_neg (by decide)]
    by_cases h64:l.length=64
    ·rw [if_pos h64]
     refine fn_ok (by kernel_rfl) ty_ok Tryz.func50 rfl (fun _ _=>Tryz.call50 _ _) rfl ?_
     intro hw
     clear hw
     repeat' ((conv=>whnf);first|(with_reducible first|refine br_t ?_|refine br_f ?_|refine za ?_|refine zg ?_)|rw [List.length_map]|refine zp ?_|refine zq ?_|(with_reducible first|refine bc (fun h => ?_) (fun h => ?_)|refine zt ?_|refine zf ?_|refine br_i (fun h => ?_) (fun h => ?_))|refine zg ?_|refine zi ?_|refine zb ?_)
     all_goals conv=>whnf
     all_goals rfl
    ·rw [if_neg h64]
     have H4:=clonePt_own (l.map Pt.c) (by simp;omega)
     have H5:=insPt_pts l p (by omega)
     refine fn_ok (by kernel_rfl) (ty_okK [38] [] [76] []) Tryz.func50 rfl (fun _ _=>Tryz.call50 _ _) rfl ?_
     intro hw
     clear hw
     repeat' ((conv=>whnf);first|(with_reducible first|refine br_t ?_|refine br_f ?_|refine za ?_|refine zg ?_|refine zo ?_|refine zc ?_)|rw [List.length_map]|refine zp ?_|refine zq ?_|(with_reducible first|refine bc (fun h => ?_) (fun h => ?_)|refine zt ?_|refine zf ?_|refine br_i (fun h => ?_) (fun h => ?_))|refine zg ?_|refine zi ?_|refine zb ?_|refine zl ?_)
     all_goals conv=>whnf
     all_goals rfl
   ·rw [hh] at H3
    rw [if_pos rfl]
    refine fn_ok (by kernel_rfl) ty_ok Tryz.func50 rfl (fun _ _=>Tryz.call50 _ _) rfl ?_
    intro hw
    clear hw
    repeat' ((conv=>whnf);first|(with_reducible first|refine br_t ?_|refine br_f ?_|refine za ?_|refine zg ?_)|rw [List.length_map]|refine zp ?_|refine zq ?_|(with_reducible first|refine bc (fun h => ?_) (fun h => ?_)|refine zt ?_|refine zf ?_|refine br_i (fun h => ?_) (fun h => ?_))|refine zg ?_|refine zi ?_|refine zb ?_)
    all_goals conv=>whnf
    all_goals rfl
  ·rw [if_neg h2]
   have h8:cpt p.id p.a p.b=8:=(cpt_08 p.id p.a p.b).resolve_left h2
   rw [h8] at H2
   refine fn_ok (by kernel_rfl) ty_ok Tryz.func50 rfl (fun _ _=>Tryz.call50 _ _) rfl ?_
   intro hw
   clear hw
   exact zw
 ·rw [if_neg h1]
  generalize fchk l=z at *
  refine fn_ok (by kernel_rfl) ty_ok Tryz.func50 rfl (fun _ _=>Tryz.call50 _ _) rfl ?_
  intro hw
  clear hw
  exact zw
theorem take_drop_without {l:List Pt} {id:Int} (hs:incr l=true) (hh:has l id=true):l.take (pos l id)++l.drop (pos l id+1)=without l id:=by
 obtain ⟨hlt,he⟩:=(has_pos hs).1 hh
 obtain ⟨s1,s2⟩:=pos_spec (id:=id) hs
 have e:l=l.take (pos l id)++l[pos l id]::l.drop (pos l id+1):=by rw [← List.drop_eq_getElem_cons hlt,List.take_append_drop]
 unfold without
 conv=>rhs;rw [e]
 rw [List.filter_append,List.filter_cons,if_neg (by simp [he])]
 congr 1
 ·refine (List.filter_eq_self.2 fun p hp => ?_).symm
  obtain ⟨k,hk,rfl⟩:=List.getElem_of_mem hp
  simp only [List.length_take] at hk
  have:=s1 k (by omega) (by omega)
  simp only [List.getElem_take,decide_eq_true_eq]
  omega
 ·refine (List.filter_eq_self.2 fun p hp => ?_).symm
  obtain ⟨k,hk,rfl⟩:=List.getElem_of_mem hp
  simp only [List.length_drop] at hk
  have:=incr_lt hs (pos l id+1+k) (pos l id) (by omega) (by omega)
  simp only [List.getElem_drop,decide_eq_true_eq]
  omega
theorem delPt_pts (l:List Pt) (id:Int) (hl:l.length≤1000) (hs:incr l=true) (hh:has l id=true):FnCon Tryz.prog 78 3 (l.map Pt.c) [.one (i64 (pos l id:Nat)),.one (i64 (pos l id+1:Nat))] ((without l id).map Pt.c):=by
 obtain ⟨hlt,_⟩:=(has_pos hs).1 hh
 have h:=delPt_con (l.map Pt.c) (pos l id) (by rw [List.length_map];exact hlt) (by rw [List.length_map];exact hl) (flat_pts l)
 have e:(l.map Pt.c).take (pos l id)++(l.map Pt.c).drop (pos l id+1)=(without l id).map Pt.c:=by
  rw [← take_drop_without hs hh,List.map_append,List.map_take,List.map_drop]
 rwa [e] at h
theorem fTake_fn (l:List Pt) (id:Int):FnOK Tryz.prog 51 [fld l,.one (i64 id)] (retFl (takeV l id)):=by
 have H3:=fplace_fn l id
 unfold placeV at H3
 unfold takeV
 by_cases h1:fchk l=0
 ·obtain ⟨k1,k2,k3⟩:=fchk_ok h1
  rw [if_pos h1] at H3 ⊢
  cases hh:has l id
  ·rw [hh,if_neg (by decide)] at H3
   refine fn_ok (by kernel_rfl) ty_ok Tryz.func51 rfl (fun _ _=>Tryz.call51 _ _) rfl ?_
   intro hw
   clear hw
   exact zw
  ·rw [hh,if_pos rfl] at H3
   rw [if_pos rfl]
   obtain ⟨hlt,_⟩:=(has_pos k3).1 hh
   have H4:=clonePt_own (l.map Pt.c) (by simp;omega)
   have H5:=delPt_pts l id (by omega) k3 hh
   have hw1:IntKind.i64.wrap (((pos l id:Nat):Int)+1)=((pos l id+1:Nat):Int):=by rw [IntWalk.i64_in _ (by omega)];omega
   refine fn_ok (by kernel_rfl) (ty_okK [20] [] [78] []) Tryz.func51 rfl (fun _ _=>Tryz.call51 _ _) rfl ?_
   intro hw
   clear hw
   repeat' ((conv=>whnf);first|(with_reducible first|refine br_t ?_|refine br_f ?_|refine za ?_|refine zg ?_|refine zo ?_|refine zc ?_)|rw [hw1]|refine zp ?_|refine zq ?_|(with_reducible first|refine bc (fun h => ?_) (fun h => ?_)|refine zt ?_|refine zf ?_|refine br_i (fun h => ?_) (fun h => ?_))|refine zg ?_|refine zi ?_|refine zb ?_|refine zl ?_)
   all_goals conv=>whnf
   all_goals rfl
 ·rw [if_neg h1] at H3 ⊢
  have hz:fchk l≠0:=h1
  generalize fchk l=z at *
  refine fn_ok (by kernel_rfl) ty_ok Tryz.func51 rfl (fun _ _=>Tryz.call51 _ _) rfl ?_
  intro hw
  clear hw
  exact zw
end Go.Proofs.YtddbmpbihpkabaaGreat

namespace Go.Proofs.YtddbmpbihpkabaaGreat
open Go Go.RowKit Go.Sort Sx
structure KeepT (n0:Nat) (W W':World):Prop where
 size:W.heap.size≤W'.heap.size
 low:∀ k,k<n0→W'.heap[k]? = W.heap[k]?
 pt:∀ (k:Nat) (cs:Array Value) (T:TypeId) (fr:Nat × Nat),W.heap[k]? = some (Obj.cells cs T fr)→(T=49∨T=26)→W'.heap[k]? = W.heap[k]?
theorem KeepT.refl (n0:Nat) (W:World):KeepT n0 W W:=⟨Nat.le_refl _,fun _ _=>rfl,fun _ _ _ _ _ _=>rfl⟩
theorem KeepT.trans {n0:Nat} {A B C:World} (h:KeepT n0 A B) (k:KeepT n0 B C):KeepT n0 A C :=
 ⟨Nat.le_trans h.size k.size,fun i hi=>(k.low i hi).trans (h.low i hi),fun i cs T fr hi hT=>by
  have e:=h.pt i cs T fr hi hT
  exact (k.pt i cs T fr (e.trans hi) hT).trans e⟩
theorem KeepT.alloc {n0:Nat} (W:World) (o:Obj) (hn:n0≤W.heap.size):KeepT n0 W (W.alloc o) :=
 ⟨by simp,fun k hk=>Below.heap_alloc W o k (by omega),fun k cs T fr h _=>Below.heap_alloc W o k (Array.getElem?_eq_some_iff.1 h).1⟩
def Pt.v (p:Pt):Value:=.agg #[.int .i64 p.id,.int .i64 p.a,.int .i64 p.b]
def pairsOf:List Pt→List (Pt × Pt)
 | []=>[]
 | p::l=>l.map (fun q=>(p,q))++pairsOf l
def preP:List Pt→Nat→List (Pt × Pt)
 | _,0=>[]
 | [],_=>[]
 | p::l,i+1=>l.map (fun q=>(p,q))++preP l i
theorem preP_succ:∀ {l:List Pt} {i:Nat} (h:i<l.length),preP l (i+1)=preP l i++(l.drop (i+1)).map (fun q=>(l[i],q))
 | p::l,0,h=>by cases l<;>simp [preP]
 | p::l,i+1,h=>by
  have ih:=preP_succ (l:=l) (i:=i) (by simpa using h)
  rw [preP,ih,preP]
  simp
theorem preP_all:∀ (l:List Pt),preP l l.length=pairsOf l
 | []=>rfl
 | p::l=>by rw [List.length_cons,preP,pairsOf,preP_all l]
theorem preP_split:∀ {l:List Pt} {i:Nat},i≤l.length→pairsOf l=preP l i++pairsOf (l.drop i)
 | l,0,_=>by cases l<;>simp [preP]
 | [],_+1,h=>by simp at h
 | p::l,i+1,h=>by
  have:=preP_split (l:=l) (i:=i) (by simpa using h)
  simp only [preP,pairsOf,List.drop_succ_cons,List.append_assoc,← this]
theorem preP_in {l:List Pt} {i j:Nat} (hi:i<l.length) (hj:i+1+j<l.length):∃ post,(preP l i++((l.drop (i+1)).take j).map (fun q=>(l[i],q)))++(l[i],l[i+1+j])::post=pairsOf l:=by
 refine ⟨(l.drop (i+1+j+1)).map (fun q=>(l[i],q))++pairsOf (l.drop (i+1)),?_⟩
 have e1:=preP_split (l:=l) (i:=i) (by omega)
 have e2:l.drop i=l[i]::l.drop (i+1):=List.drop_eq_getElem_cons hi
 have e3:l.drop (i+1)=(l.drop (i+1)).take j++l[i+1+j]::l.drop (i+1+j+1):=by
  conv=>lhs;rw [← List.take_append_drop j (l.drop (i+1)),List.drop_drop,List.drop_eq_getElem_cons hj]
 have e4:(l.drop (i+1)).map (fun q=>(l[i],q))=((l.drop (i+1)).take j).map (fun q=>(l[i],q))++(l[i],l[i+1+j])::(l.drop (i+1+j+1)).map (fun q=>(l[i],q)):=by
  conv=>lhs;rw [e3]
  rw [List.map_append,List.map_cons]
 rw [e1,e2,pairsOf,e4]
 simp only [List.append_assoc,List.cons_append]
def SeqAll {α:Type} (n:Nat) (P:Program) (g:Nat) (lb:Array Value) (encs:α→Array Value) (Kp:World→World→Prop) (xs:List α) (w:World):Prop :=
 ∀ (lp:Nat) (J:List α→World→Prop) (W:World),Below w.heap.size w W→AbidesFrom W.heap.size J →
  (∀ pre x post W1,pre++x::post=xs→J pre W1→YieldAt Fence.wide (n-1) P lp (encs x) W1 fun e W'=>e=.returned (.bool true)∧J (pre++[x]) W'∧Kp W1 W')→J [] W →
  CallsIn Fence.wide n P g (#[.func (.yield lp) #[] #[]]++lb) W fun e W'=>(∃ v,e=.returned v)∧J xs W'
set_option maxRecDepth 100000 in
set_option maxHeartbeats 4000000 in
theorem pairs1_stops (l:List Pt) (n0 n c:Nat) (fv:Value) (w:World) (hl:l.length≤1000) (hbox:w.heap[c]? = some (.cells #[fv] 26 (0,0))) (hrep:Rep w (fun b=>n0≤b) (.list 3 (l.map Pt.c)) fv) (hn0:n0≤w.heap.size) (hn:1≤n) :
  SeqAll n Tryz.prog 142 #[.pointer (some ⟨c,0,none⟩)] (fun pq:Pt × Pt=>#[pq.1.v,pq.2.v]) (KeepT n0) (pairsOf l) w:=fun lp J W hbel hJ hY h0=>by
 have hcw:c<w.heap.size:=(Array.getElem?_eq_some_iff.1 hbox).1
 have hKW:∀ {k},k<w.heap.size→W.heap[k]? = w.heap[k]? := fun hk=>hbel.block _ hk
 have hbx:∀ {W':World},KeepT n0 W W'→W'.cell? ⟨c,0,none⟩=some fv:=fun hk=>by
  have e:=(hk.pt c _ _ _ ((hKW hcw).trans hbox) (.inr rfl)).trans ((hKW hcw).trans hbox)
  simp [World.cell?,e]
 generalize hd:D.list 3 (l.map Pt.c)=d at hrep
 cases hrep with
 | nil k x cp hm hx =>
  injection hd with hk hd
  subst hk
  have hl0:l=[]:=List.map_eq_nil_iff.1 hd
  subst hl0
  have hb0:=hbx (KeepT.refl n0 W)
  refine callsIn_of_wp Tryz.func142 rfl trivial ?_ rfl
  simp only [Tryz.ntmps142,List.size_toArray,List.length_cons,List.length_nil,Nat.reduceAdd,Nat.reduceSub,Array.replicate_succ,Array.replicate_zero,List.push_toArray,List.append_toArray,List.nil_append,List.cons_append]
  gi_wp2
  gi_loopw [10] (fun x W'=>x=.int .i64 0∧W'=W) (fun _ _=>0)
  case atStart=>exact ⟨rfl,rfl⟩
  case round =>
   obtain ⟨rfl,rfl⟩:=hrel
   gi_wp2
   go_end0
   exact ⟨⟨_,rfl⟩,h0⟩
 | @list b off cap k ll vs h1 h2 h3 h4 h5 h6 h7 =>
  injection hd with hk hd
  subst hk hd
  have hll:(l.map Pt.c).length=l.length:=List.length_map ..
  rw [hll] at h1 hbx
  have h3:b<n0:=Nat.lt_of_not_le h3
  have cell:∀ {W':World},KeepT n0 W W'→∀ (i:Nat) (h:i<l.length),W'.cell? ⟨b,off+i*3,none⟩=some (.int .i64 l[i].id)∧W'.cell? ⟨b,off+(i*3+1),none⟩=some (.int .i64 l[i].a)∧W'.cell? ⟨b,off+(i*3+2),none⟩=some (.int .i64 l[i].b):=fun {W'} hk i h=>by
   have hi:i<(l.map Pt.c).length:=by rw [hll];exact h
   have e:W'.heap[b]? = w.heap[b]? := (hk.low b h3).trans (hKW h4)
   have key:∀ (j:Nat) (v:Value) (hj:j<3),(l.map Pt.c)[i][j]'(by rw [h5 _ (List.getElem_mem hi)];exact hj)=.v v→W'.cell? ⟨b,off+(i*3+j),none⟩=some v:=fun j v hj hv=>by
    rw [World.cell?_of_block (w:=w) e,← Nat.add_assoc,h6 i j hi hj]
    have:=h7 i j hi (by rw [h5 _ (List.getElem_mem hi)];exact hj)
    rw [hv] at this
    cases this;rfl
   refine ⟨by have:=key 0 (.int .i64 l[i].id) (by omega) (by simp [Pt.c]);rwa [Nat.add_zero] at this,key 1 _ (by omega) (by simp [Pt.c]),key 2 _ (by omega) (by simp [Pt.c])⟩
  have hb0:=hbx (KeepT.refl n0 W)
  clear h6 h7
  refine callsIn_of_wp Tryz.func142 rfl trivial ?_ rfl
  simp only [Tryz.ntmps142,List.size_toArray,List.length_cons,List.length_nil,Nat.reduceAdd,Nat.reduceSub,Array.replicate_succ,Array.replicate_zero,List.push_toArray,List.append_toArray,List.nil_append,List.cons_append]
  gi_wp2
  gi_loopw [10] (fun x W'=>∃ i:Nat,x=.int .i64 i∧i≤l.length∧KeepT n0 W W'∧J (preP l i) W') (fun x _=>l.length-(intOf x).toNat)
  case atStart=>exact ⟨0,rfl,Nat.zero_le _,KeepT.refl n0 W,by cases l<;>exact h0⟩
  case round =>
   obtain ⟨i,rfl,hi,hkt,hJi⟩:=hrel
   obtain ⟨wo,hwo⟩:∃ wo,wo=wr:=⟨_,rfl⟩
   subst hwo
   rcases Nat.lt_or_ge i l.length with hlt|hge
   ·obtain ⟨q0,q1,q2⟩:=cell hkt i hlt
    have hb1:=hbx hkt
    have hsz:n0≤wo.heap.size:=Nat.le_trans (Nat.le_trans hn0 hbel.size) hkt.size
    have hk2:=hkt.trans (KeepT.alloc wo (.cells #[.int .i64 l[i].id,.int .i64 l[i].a,.int .i64 l[i].b] 49) hsz)
    have hb2:=hbx hk2
    have hw1:IntKind.i64.wrap ((i:Int)+1)=(i:Int)+1:=by rw [IntKind.wrap_i64];omega
    have hp1:(0:Int)≤(i:Int)+1:=by omega
    have hp2:((i:Int)+1).toNat=i+1:=by omega
    have hp3:(i:Int)+1≤(l.length:Int):=by omega
    have hp4:i+1≤l.length:=by omega
    have hgr:wo.grownBy (wo.alloc (.cells #[.int .i64 l[i].id,.int .i64 l[i].a,.int .i64 l[i].b] 49)) none:=World.grownBy_alloc wo _ none
    have hJ2:=hJ _ _ _ none hJi hgr (fun r e=>by cases e)
    have hpb:(wo.alloc (.cells #[.int .i64 l[i].id,.int .i64 l[i].a,.int .i64 l[i].b] 49)).heap[wo.heap.size]? = some (.cells #[.int .i64 l[i].id,.int .i64 l[i].a,.int .i64 l[i].b] 49 (0,0)):=World.alloc_heap_new wo _
    by_cases hcap:cap=i+1
    ·have hz:l.length-(i+1)=0:=by omega
     gi_wp2
     gi_loopw [21] (fun x W'=>x=.int .i64 0∧W'=wo.alloc (.cells #[.int .i64 l[i].id,.int .i64 l[i].a,.int .i64 l[i].b] 49)) (fun _ _=>0)
     case atStart=>exact ⟨rfl,rfl⟩
     case round =>
      obtain ⟨rfl,rfl⟩:=hrel
      gi_wp2
      go_roundw
      case rel=>exact ⟨i+1,by simp,hlt,hk2,by rw [preP_succ hlt,List.drop_eq_nil_of_le (by omega),List.map_nil,List.append_nil];exact hJ2⟩
      case measure=>show l.length-((i:Int)+1).toNat<l.length-((i:Int)).toNat;omega
    ·gi_wp2
     generalize hW2:wo.alloc (.cells #[.int .i64 l[i].id,.int .i64 l[i].a,.int .i64 l[i].b] 49)=W2 at *
     gi_loopw [21] (fun x W'=>∃ j:Nat,x=.int .i64 j∧j≤l.length-(i+1)∧KeepT n0 W2 W'∧J (preP l i++((l.drop (i+1)).take j).map (fun q=>(l[i],q))) W') (fun x _=>l.length-(i+1)-(intOf x).toNat)
     case atStart=>exact ⟨0,rfl,Nat.zero_le _,KeepT.refl n0 W2,by rw [List.take_zero,List.map_nil,List.append_nil];exact hJ2⟩
     case round =>
      obtain ⟨j,rfl,hj,hk3,hJ3⟩:=hrel
      have hsz3:n0≤wr.heap.size:=Nat.le_trans (Nat.le_trans hsz (by rw [← hW2];simp)) hk3.size
      rcases Nat.lt_or_ge j (l.length-(i+1)) with hjl|hjg
      ·have hij:i+1+j<l.length:=by omega
       obtain ⟨r0,r1,r2⟩:=cell (hk2.trans hk3) (i+1+j) hij
       obtain ⟨q,hq⟩:∃ q,l[i+1+j]=q:=⟨_,rfl⟩
       rw [hq] at r0 r1 r2
       have eo:(i+1+j)*3=(i+1)*3+j*3:=by rw [Nat.add_mul]
       rw [eo] at r0 r1 r2
       rw [Nat.add_assoc ((i+1)*3)] at r1 r2
       have hpb3:=(hk3.pt _ _ _ _ hpb (.inl rfl)).trans hpb
       have hpw:wo.heap.size<wr.heap.size:=(Array.getElem?_eq_some_iff.1 hpb3).1
       have hk4:=hk3.trans (KeepT.alloc wr (.cells #[.int .i64 q.id,.int .i64 q.a,.int .i64 q.b] 49) hsz3)
       have hJ4:=hJ _ _ _ none hJ3 (World.grownBy_alloc wr (.cells #[.int .i64 q.id,.int .i64 q.a,.int .i64 q.b] 49) none) (fun r e=>by cases e)
       have hpb4:=(hk4.pt _ _ _ _ hpb (.inl rfl)).trans hpb
       have p0:(wr.alloc (.cells #[.int .i64 q.id,.int .i64 q.a,.int .i64 q.b] 49)).cell? ⟨wo.heap.size,0,none⟩=some (.int .i64 l[i].id):=by simp only [World.cell?,hpb4];rfl
       have p1:(wr.alloc (.cells #[.int .i64 q.id,.int .i64 q.a,.int .i64 q.b] 49)).cell? ⟨wo.heap.size,1,none⟩=some (.int .i64 l[i].a):=by simp only [World.cell?,hpb4];rfl
       have p2:(wr.alloc (.cells #[.int .i64 q.id,.int .i64 q.a,.int .i64 q.b] 49)).cell? ⟨wo.heap.size,2,none⟩=some (.int .i64 l[i].b):=by simp only [World.cell?,hpb4];rfl
       obtain ⟨post,hpost⟩:=preP_in hlt hij
       rw [hq] at hpost
       obtain ⟨fn,tmps,assign,body,hy,hR⟩:=hY _ (l[i],q) post _ hpost hJ4
       dsimp only [Pt.v] at hy
       gi_wp2
       refine hR.mono ?_
       rintro e W3 ⟨rfl,hJ5,hk5⟩
       ·gi_wp2
        go_roundw
        case rel =>
         refine ⟨j+1,by simp,hjl,hk4.trans hk5,?_⟩
         rw [List.append_assoc] at hJ5
         have:((l.drop (i+1)).take (j+1)).map (fun q=>(l[i],q))=((l.drop (i+1)).take j).map (fun q=>(l[i],q))++[(l[i],q)]:=by
          rw [List.take_succ_eq_append_getElem (by rw [List.length_drop];exact hjl),List.map_append,List.getElem_drop,hq];rfl
         rw [this];exact hJ5
        case measure=>show l.length-(i+1)-((j:Int)+1).toNat<l.length-(i+1)-((j:Int)).toNat;omega
      ·have hje:j=l.length-(i+1):=by omega
       gi_wp2
       go_roundw
       case rel =>
        refine ⟨i+1,by simp,hlt,hk2.trans hk3,?_⟩
        rw [List.take_of_length_le (by rw [List.length_drop];omega)] at hJ3
        rw [preP_succ hlt];exact hJ3
       case measure=>show l.length-((i:Int)+1).toNat<l.length-((i:Int)).toNat;omega
   ·obtain rfl:i=l.length:=by omega
    gi_wp2
    go_end0
    exact ⟨⟨_,rfl⟩,by rw [← preP_all l];exact hJi⟩
 | _=>cases hd
end Go.Proofs.YtddbmpbihpkabaaGreat

namespace Go.Proofs.YtddbmpbihpkabaaGreat
open Go Go.RowKit Go.Sort Sx
theorem KeepT.putObj {n0:Nat} {W:World} {l:Nat} {o:Obj} (o':Obj) (hn:n0≤l) (hl:W.heap[l]? = some o) (ho:o.isCells=false):KeepT n0 W (W.putObj l o') :=
 ⟨by simp,fun k hk=>World.putObj_heap_other (by omega),fun k cs T fr h _=>World.putObj_heap_other fun e=>by
  subst e;rw [hl] at h;injection h with h;subst h;cases ho⟩
theorem wpIn_rangeAll {P:Program} {α:Type} {g:Operand} {ps:Array Tmp} {assign body:Code} {Q:Exit→Act→World→Prop} {a:Act} {w w0:World} {n n0:Nat} (h1:1≤n) {gf:Nat} {lb:Array Value} (hg:a.eval g=.func (.func gf) #[] lb)
  (eg:∀ args w,(callFunc gf args).run P w=.ok (.enter gf args) w) {encs:α→Array Value} {xs:List α} (hseq:SeqAll (n-1) P gf lb encs (KeepT n0) xs w0) (hb0:Below w0.heap.size w0 w) (hn0:n0≤w.heap.size) (hps:∀ x,(encs x).size=ps.size)
  (I:List α→World→Prop) (hI:OwnFrom w.heap.size I) (h0:I [] w) (As:List α→α→Act→World→Prop) (hAs:∀ x a₁,OwnFrom w.heap.size fun pre W=>As pre x a₁ W)
  (hassign:∀ (lp:Nat) (pre:List α) (x:α) (W:World),x∈xs→pre.length<xs.length→I pre W→assign.wpIn (Fence.wide.inRound lp) (n-1-1) P (Exit.then (fun a₁ W1=>KeepsOthers W W1∧KeepT n0 W W1∧As pre x a₁ W1) (fun _ _ _=>False)) { tmps:=(ps.zip (encs x)).foldl (fun t (p,v)=>t.setIfInBounds p v) a.tmps,defers:=[] } W)
  (hbody:∀ (lp:Nat) (pre:List α) (x:α) (a₁:Act) (W:World),As pre x a₁ W→body.wpIn (Fence.wide.inRound lp) (n-1-1) P (fun ex _ W'=>ex=.normal∧KeepsOthers W W'∧KeepT n0 W W'∧I (pre++[x]) W') a₁ W)
  (hdone:∀ (D:Nat) (W:World),w.heap.size≤D→I xs W→W.heap[D]? = some (.deferred (some []))→Q .normal { a with defers:={ target:=.collected D,args:=#[] }::a.defers } W) :
  (Code.rangeFunc g ps assign body).wpIn Fence.wide n P Q a w:=by
 refine wpIn_rangeFunc fun fn hfn => ?_
 obtain ⟨L,hL⟩:∃ L:LoopState→Option Code→Obj,L=fun st pe=>.loop { state:=st,pending:=pe,fn,tmps:=a.tmps,params:=ps,assign,body,defers:=w.heap.size }:=⟨_,rfl⟩
 have hLc:∀ st pe,(L st pe).isCells=false:=fun st pe=>by rw [hL];rfl
 have hLw:∀ st pe,(L st pe).isWalk=false:=fun st pe=>by rw [hL];rfl
 obtain ⟨W1,hW1⟩:∃ W1,W1=(w.alloc (.deferred (some []))).alloc (L .ready none):=⟨_,rfl⟩
 have s1:W1.heap.size=w.heap.size+2:=by rw [hW1];simp
 have g1:W1.heap[w.heap.size+1]? = some (L .ready none):=by rw [hW1];have:=World.alloc_heap_new (w.alloc (.deferred (some []))) (L .ready none);rwa [World.size_alloc] at this
 have g2:W1.heap[w.heap.size]? = some (.deferred (some [])):=by rw [hW1];exact (Below.heap_alloc _ _ _ (by simp)).trans (World.alloc_heap_new w _)
 have i1:I [] W1:=by rw [hW1];exact hI.alloc _ (hI.alloc _ h0)
 have b1:Below w0.heap.size w0 W1:=by
  rw [hW1];exact hb0.trans ((((Below.refl _ w).alloc (Nat.le_refl _) _).alloc (by simp) _).mono hb0.size)
 refine ⟨w.heap.size+1,[{ target:=.collected w.heap.size,args:=#[] }],W1,{ target:=.fn (.func gf) lb,args:=#[.func (.yield (w.heap.size+1)) #[] #[]] },W1,gf,#[.func (.yield (w.heap.size+1)) #[] #[]]++lb,W1,?_,?_,fun f' _=>trivial,?_,fun _=>h1,?_⟩
 ·have:=run_enterLoop_outer (P:=P) (w:=w) fn a.tmps ps assign body
  rw [hW1,hL];exact this
 ·simp only [resolve,hg];simp [go_sem]
 ·simp [invoke,go_sem,eg]
 have keep:∀ {A B:World} {row:Option Nat},A.grownBy B row→(∀ r,row=some r→W1.heap.size≤r)→∀ k o,k<W1.heap.size→A.heap[k]? = some o→B.heap[k]? = some o:=fun hg hr k o hk h =>
  (hg.block k (Array.getElem?_eq_some_iff.1 h).1 fun e=>by have:=hr k e.symm;omega).trans h
 refine (hseq (w.heap.size+1) (fun pre W=>I pre W∧W.heap[w.heap.size+1]? = some (L .ready none)∧W.heap[w.heap.size]? = some (.deferred (some []))) W1 b1
  (fun s A B row hs hg' hr=>⟨hI s A B row hs.1 hg' (fun r e=>⟨by have:=(hr r e).1;omega,by obtain ⟨_,o,h2,h3⟩:=hr r e;exact ⟨o,h2,Obj.not_cells_of_walk h3⟩⟩),keep hg' (fun r e=>(hr r e).1) _ _ (by omega) hs.2.1,keep hg' (fun r e=>(hr r e).1) _ _ (by omega) hs.2.2⟩)
  ?_ ⟨i1,g1,g2⟩).mono ?_
 ·rintro pre x post W hpost ⟨hi,hl,hk⟩
  have hxs:x∈xs:=by rw [← hpost];simp
  have hpl:pre.length<xs.length:=by rw [← hpost];simp
  have hlw:w.heap.size+1<W.heap.size:=(Array.getElem?_eq_some_iff.1 hl).1
  have hl':W.heap[w.heap.size+1]? = some (.loop { state:=.ready,pending:=none,fn,tmps:=a.tmps,params:=ps,assign,body,defers:=w.heap.size }):=by rw [hl,hL]
  have hy:=run_yield (P:=P) (args:=encs x) hl' (hps x)
  refine ⟨fn,_,assign,body,hy,roundIn_of_wpIn hfn (wpIn_mono (hassign _ pre x W hxs hpl hi) ?_)⟩
  rintro e a₁ W2 hp
  cases e with
  | normal =>
   obtain ⟨k1,k2,k3⟩:=hp
   have hl2:=k1.same _ _ hl (hLc _ _)
   have hk2:=k1.same _ _ hk rfl
   have hl2':W2.heap[w.heap.size+1]? = some (.loop { state:=.ready,pending:=none,fn,tmps:=a.tmps,params:=ps,assign,body,defers:=w.heap.size }):=by rw [hl2,hL]
   have hb:=run_beginRound (P:=P) hl2' rfl
   obtain ⟨W3,hW3⟩:∃ W3,W3=W2.putObj (w.heap.size+1) (L .busy none):=⟨_,rfl⟩
   have hl3:W3.heap[w.heap.size+1]? = some (L .busy none):=by rw [hW3];exact World.putObj_heap_same (Array.getElem?_eq_some_iff.1 hl2).1
   have hk3:W3.heap[w.heap.size]? = some (.deferred (some [])):=by rw [hW3];exact (World.putObj_heap_other (by omega)).trans hk2
   have ka3:As pre x a₁ W3:=by rw [hW3];exact (hAs x a₁).putObj _ k3 (by omega) hl2 (hLc _ _)
   have kt3:KeepT n0 W W3:=k2.trans (by rw [hW3];exact KeepT.putObj _ (by omega) hl2 (hLc _ _))
   refine ⟨W3,by rw [hW3,hL];exact hb,wpIn_mono (hbody _ pre x a₁ W3 ka3) ?_⟩
   rintro e a₂ W4 ⟨rfl,q1,q2,q3⟩
   have hl4:=q1.same _ _ hl3 (hLc _ _)
   have hk4:=q1.same _ _ hk3 rfl
   have hl4':W4.heap[w.heap.size+1]? = some (.loop { state:=.busy,pending:=none,fn,tmps:=a.tmps,params:=ps,assign,body,defers:=w.heap.size }):=by rw [hl4,hL]
   have he:=run_endRound (P:=P) none hl4'
   refine ⟨_,_,he,rfl,⟨hI.putObj _ q3 (by omega) hl4 (hLc _ _),?_,(World.putObj_heap_other (by omega)).trans hk4⟩,(kt3.trans q2).trans (KeepT.putObj _ (by omega) hl4 (hLc _ _))⟩
   rw [World.putObj_heap_same (Array.getElem?_eq_some_iff.1 hl4).1,hL];rfl
  | ret=>exact hp.elim
  | exit id=>exact hp.elim
  | goto t=>exact hp.elim
  | panic ch=>exact hp.elim
  | outgrown=>exact hp.elim
 ·rintro e W2 ⟨⟨v,rfl⟩,hi,hl,hk⟩
  have hl':W2.heap[w.heap.size+1]? = some (.loop { state:=.ready,pending:=none,fn,tmps:=a.tmps,params:=ps,assign,body,defers:=w.heap.size }):=by rw [hl,hL]
  exact ⟨none,_,run_endLoop (P:=P) hl' (by simp),hdone _ _ (Nat.le_refl _) (hI.putObj _ hi (by omega) hl (hLc _ _)) ((World.putObj_heap_other (by omega)).trans hk)⟩
theorem mpairs_in (n:Nat) (fv:Value) (w:World) (h1:fv.oneCell'=true):CallsIn Fence.wide n Tryz.prog 114 #[.agg #[fv]] w fun e w'=>e=.returned (.func (.func 142) #[] #[.pointer (some ⟨w.heap.size,0,none⟩)])∧w'=w.alloc (.cells #[fv] 26):=by
 refine callsIn_of_wp Tryz.func114 rfl trivial ?_ rfl
 simp only [Tryz.ntmps114,List.size_toArray,List.length_cons,List.length_nil,Nat.reduceAdd,Nat.reduceSub,Array.replicate_succ,Array.replicate_zero,List.push_toArray,List.append_toArray,List.nil_append,List.cons_append]
 gi_wp2
 first|go_ret|refine bodyPost_ret (results_tmp rfl _ _ _) rfl ?_|refine bodyPost_end (results_tmp rfl _ _ _) rfl ?_
 exact ⟨rfl,rfl⟩
end Go.Proofs.YtddbmpbihpkabaaGreat
