import Derived.Test.YtfkfficabeclcaaGreatDoorGLTRanksAR
import Derived.Test.YtfkfficabeclcaaGreatDoorGLTRanksAO
import Derived.Test.YtfkfficabeclcaaGreatDoorGLTRanksAU
import Derived.Test.YtfkfficabeclcaaGreatDoorGLTRanksAV
import Derived.Test.YtfkfficabeclcaaGreatDoorGLTRanksAT
set_option linter.all false
namespace Go.Proofs.YtfkfficabeclcaaGreatDoor
open Go Go.Shelf Go.RowKit Go.Lib Go.Sort Sx
set_option maxRecDepth 2000
namespace Sx
def pqS {α:Type} [Inhabited α] (cf:α→α→Int) (d:List α):List α:=(pdq (ltOf cf) d.toArray 0 d.toArray.size (Lib.bitLen d.toArray.size) true true).toList
theorem pqS_ok {α:Type} [Inhabited α] {cf:α→α→Int} (hO:SWO (ltOf cf)) (d:List α):(pqS cf d).Perm d∧(pqS cf d).Pairwise fun x y=>ltOf cf y x=false:=by
 obtain ⟨⟨hsz,_,hperm⟩,hs⟩:=pdq_sorts (ltOf cf) hO d.toArray 0 d.toArray.size (Lib.bitLen d.toArray.size) true true (Nat.zero_le _) (Nat.le_refl _) (Or.inl rfl)
 unfold pqS
 generalize pdq (ltOf cf) d.toArray 0 d.toArray.size (Lib.bitLen d.toArray.size) true true=d' at *
 have e1:d'.extract 0 d.toArray.size=d':=by rw [← hsz];exact Array.extract_size
 rw [e1,Array.extract_size] at hperm
 refine ⟨by simpa using hperm,List.pairwise_iff_getElem.2 fun i j hi hj hij => ?_⟩
 have hi':i<d'.size:=by simpa using hi
 have hj':j<d'.size:=by simpa using hj
 have:=hs i j (Nat.zero_le _) hij (by omega)
 rw [getElem!_pos d' j hj',getElem!_pos d' i hi'] at this
 simpa using this
theorem sort_muE {P:Program} {ρ:Ren} {α:Type} [Inhabited α] (L:SlLaysF0.n6 P ρ) {k:Nat} (hk0:0<k) (aE:∀ w,(isAgg (ρ.t 24)).run P w=.ok true w) (zE:∀ w,(Go.sizeOf (ρ.t 24)).run P w=.ok k w)
  (enc:α→List Value) (hk:∀ x,(enc x).length=k) (h1:∀ x,∀ v∈enc x,v.oneCell'=true∧wfV v) (cf:α→α→Int) (hO:SWO (ltOf cf)) {g:Nat} {caps:List (List D)}
  (eg:∀ args w,(callFunc g args).run P w=.ok (.enter g args) w) (es:∀ args w,(callFunc (ρ.f 6) args).run P w=.ok (.enter (ρ.f 6) args) w)
  (hcmp:∀ x y,FnD P g ([.agg ((enc x).map .v),.agg ((enc y).map .v)]++refsC caps) (.c (.one (.v (.int .i64 (cf x y)))))) (d:List α) (hsz:d.length<4611686018427387904) :
  FnMu P (ρ.f 6) k (d.map fun x=>(enc x).map .v) [.one (.clo g caps)] ((pqS cf d).map fun x=>(enc x).map .v):=by
 refine ⟨fun e he => ?_,fun w M v vs m hM hm hvs hB hv => ?_⟩
 ·obtain ⟨x,_,rfl⟩:=List.mem_map.1 he
  exact flatL_v _
 match vs,hvs with
 | [u],⟨hu,_⟩ =>
  obtain ⟨ps,rfl,hps⟩:=crefs_rel (show Rep w M (.clo g caps) u from hu)
  obtain ⟨x,rfl,hx⟩:=hv
  obtain ⟨⟨k1,k2,k3,k4,k5⟩,hreal⟩:=hB
  refine ⟨ρ.f 6,es _ _,?_⟩
  rw [List.length_map] at k2
  cases d with
  | nil =>
   have k2:0=m.len:=k2
   have e9:pqS cf []=[]:=List.length_eq_zero_iff.1 (pqS_ok hO []).1.length_eq
   rw [← k2,e9]
   refine (AnyF.slices_SortFunc_none L x m.cap _ w).mono ?_
   rintro e w' ⟨rfl,rfl⟩
   exact ⟨rfl,.refl _ _ _,⟨by simp,by simpa using k2,fun _=>by simp,rfl,k5⟩,by simpa using hreal⟩
  | cons y ys =>
   have hc0:0<m.cap:=by
    rcases Nat.eq_zero_or_pos m.cap with h|h
    ·have:=k3 h;simp at this
    ·exact h
   rw [hx hc0,← k2]
   obtain ⟨cs,⟨T,hcs⟩,c1,c2,c3,vals,rest,c4,c5⟩:=hreal (by simpa [Blk.real] using hc0)
   rw [flatten_v] at c5
   have hvals:=dsR_flat c5
   generalize hd:y::ys=d at *
   have hm':∀ x∈d.map enc,x.length=k:=fun x hx=>by obtain ⟨y,_,rfl⟩:=List.mem_map.1 hx;exact hk y
   have hfl:(d.map enc).flatten.length=d.length*k:=by rw [flat_len2 hm',List.length_map]
   have hbl:m.b<w.heap.size:=hM _ (hm hc0)
   have hH:HoldsK enc k w m.b 0 d.toArray:=by
    intro j hj
    have hj':j<d.length*k:=by simpa using hj
    rw [Nat.zero_add]
    refine ⟨?_,frozen_of_row w m.b j cs.toArray T hcs⟩
    rw [cell_of ⟨T,hcs⟩,c4,List.getElem?_append_left (by rw [hvals,hfl];exact hj'),hvals,← flatK_toList hk0 hk,Array.getElem?_toList,getElem!_pos (flatK enc k d.toArray) j hj,Array.getElem?_eq_getElem hj]
    rfl
   have hHold:∀ n (dk:Array α) os,Sx.Holds M w (sortWorldK enc k w m.b 0 n dk os):=fun n dk os =>
    ⟨size_sort,fun b hb hMb _=>heap_sort_other hb fun e=>hMb (by rw [e];exact hm hc0)⟩
   have hC:CmpLays P g ps.toArray enc k cf m.b 0 d.toArray.size w:=by
    intro n os dk hdk a b
    have hargs:DCsR (sortWorldK enc k w m.b 0 n dk os) M ([.agg ((enc a).map .v),.agg ((enc b).map .v)]++refsC caps) ([.agg (enc a).toArray,.agg (enc b).toArray]++ps) :=
     ⟨⟨_,rfl,dsR_of_flat (h1 a)⟩,⟨_,rfl,dsR_of_flat (h1 b)⟩,hps.mono (hHold n dk os) (fun _ _ h=>h)⟩
    rcases hcmp a b _ M _ ⟨fun b hb=>Nat.lt_of_lt_of_le (hM b hb) size_sort,gd_keep size_sort (fun b hb=>heap_sort_other (Nat.lt_of_lt_of_le hb (gd_size hM.gd)) fun e=>by have:=hM.ge _ (hm hc0);omega) hM.gd,hM.ge⟩ hargs with ⟨g',hg,hc⟩|⟨_,hg,_⟩
    ·rw [eg] at hg
     injection hg with h2
     injection h2 with h2
     subst h2
     have e:(#[Value.agg (enc a).toArray,.agg (enc b).toArray]++ps.toArray:Array Value)=([Value.agg (enc a).toArray,Value.agg (enc b).toArray]++ps).toArray:=by simp
     rw [e]
     refine hc.mono ?_
     rintro e w' ⟨u,rfl,hu,hb,hdr⟩
     have hu:Rep w' M (.v (.int .i64 (cf a b))) u:=hu
     cases hu
     obtain ⟨q,hq⟩:=regrown_of_below hb
     have hqd:w'.drawn=q.d:=by rw [hq];rfl
     refine ⟨rfl,q.d-(sortWorldK enc k w m.b 0 n dk os).drawn,q.os,?_⟩
     rw [hq]
     unfold redrawn World.drewN
     rw [show (sortWorldK enc k w m.b 0 n dk os).drawn+(q.d-(sortWorldK enc k w m.b 0 n dk os).drawn)=q.d by omega]
    ·rw [eg] at hg
     injection hg with h2
     cases h2
   have hlaw:=AnyQ.slices_SortFunc_eq L k aE zE enc hk (fun x v hv=>(h1 x v hv).1) cf hO g ps.toArray m.b 0 m.cap d.toArray w eg hC hH hbl (by simpa using hsz)
   have e0:d.toArray.size=d.length:=by simp
   have e9:pdq (ltOf cf) d.toArray 0 d.toArray.size (Lib.bitLen d.toArray.size) true true=(pqS cf d).toArray:=by unfold pqS;simp
   rw [e9] at hlaw
   rw [e0] at hlaw
   refine hlaw.mono ?_
   rintro e w' ⟨rfl,n,os,rfl⟩
   have hsl0:=(pqS_ok hO d).1.length_eq
   generalize hs:pqS cf d=s at *
   have hsl:s.length=d.length:=hsl0
   have hms:∀ x∈s.map enc,x.length=k:=fun x hx=>by obtain ⟨y,_,rfl⟩:=List.mem_map.1 hx;exact hk y
   have hsfl:(s.map enc).flatten.length=d.length*k:=by rw [flat_len2 hms,List.length_map,hsl]
   refine ⟨rfl,⟨rfl,rfl,rfl,size_sort,fun b hb hne=>heap_sort_other hb fun e=>hne ⟨hc0,e⟩,.inr ?_⟩,⟨fun x hx => ?_,by rw [List.length_map,hsl,k2],fun h=>by omega,rfl,k5⟩,fun _ => ?_⟩
   ·show w.drawn≤w.drawn+n
    omega
   ·obtain ⟨y,_,rfl⟩:=List.mem_map.1 hx
    rw [List.length_map];exact hk y
   ·have hsize:(flatK enc k s.toArray).size=d.length*k:=by simp [hsl]
    have hle:(flatK enc k s.toArray).size≤cs.length:=by rw [hsize,c3];exact Nat.mul_le_mul_right _ (by simpa using c1)
    refine ⟨(flatK enc k s.toArray).toList++cs.drop (flatK enc k s.toArray).size,⟨T,?_⟩,by rw [List.length_map,hsl];simpa using c1,c2,?_,(flatK enc k s.toArray).toList,cs.drop (flatK enc k s.toArray).size,rfl,?_⟩
    ·rw [heap_sort hcs,← put_flat hle]
    ·rw [List.length_append,Array.length_toList,List.length_drop]
     omega
    ·rw [flatten_v,flatK_toList hk0 hk]
     exact dsR_of_flat fun v hv=>by
      obtain ⟨x,hx,hvx⟩:=List.mem_flatten.1 hv
      obtain ⟨z,_,rfl⟩:=List.mem_map.1 hx
      exact h1 z v hvx
end Sx
theorem tsort1_fnd (p q:Pt):FnD Tryz.prog 48 [p.dc,q.dc] (ret1 (cmpN p.id q.id)):=by
 have H:=cmpint_fnd p.id q.id
 refine fn_okD (by kernel_rfl) ty_okD rfl Tryz.func48 rfl (fun _ _=>Tryz.call48 _ _) rfl ?_
 intro hw
 clear hw
 repeat' ((conv=>whnf);first|(with_reducible first|refine br_t ?_|refine br_f ?_|refine zd ?_|refine za ?_|refine zg ?_)|refine zp ?_|refine zq ?_|(with_reducible first|refine bc (fun h => ?_) (fun h => ?_)|refine zt ?_|refine zf ?_|refine br_i (fun h => ?_) (fun h => ?_))|refine zg ?_|refine zi ?_|refine zb ?_)
 all_goals conv=>whnf
 all_goals rfl
theorem sortId_mu (l:List Pt) (hl:∀ p∈l,p.chk=0) (hsz:l.length≤1000000):∃ L:List Pt,L.Perm l∧(L.Pairwise fun a b=>a.id≤b.id)∧FnMu Tryz.prog 47 3 (l.map Pt.c) [.one (.clo 48 [])] (L.map Pt.c):=by
 have swo:∀ {α:Type} (f:α→Int),SWO (ltOf fun x y:α=>cmpN (f x) (f y)):=fun f=>by
  refine ⟨fun p => ?_,fun p q r h1 h2 => ?_,fun p q r h1 h2 => ?_⟩
  ·unfold ltOf cmpN;simp
  ·unfold ltOf cmpN at *;simp only [decide_eq_true_eq] at *;(repeat' split at h1)<;>(repeat' split at h2)<;>(repeat' split)<;>omega
  ·unfold ltOf cmpN at *;simp only [decide_eq_false_iff_not] at *;(repeat' split at h1)<;>(repeat' split at h2)<;>(repeat' split)<;>omega
 cases l with
 | nil =>
  have:=sort_muE (P:=Tryz.prog) (ρ:=Tryz.sortPt_ren) (α:=Unit) (k:=3) Tryz.sortPt (by decide) Tryz.isAgg43 Tryz.sizeOf43 (fun _=>[.int .i64 0,.int .i64 0,.int .i64 0]) (fun _=>rfl) (fun _ v hv=>by simp at hv;subst hv;exact ⟨rfl,WD_v.1 (wd_i64.2 (by omega))⟩) (fun _ _=>cmpN 0 0) (swo fun _=>0) (g:=48) (caps:=[]) (fun _ _=>Tryz.call48 _ _) (fun _ _=>Tryz.call47 _ _)
   (fun _ _=>tsort1_fnd ⟨0,0,0⟩ ⟨0,0,0⟩) [] (by decide)
  have e:pqS (fun (_ _:Unit)=>cmpN 0 0) []=[]:=List.length_eq_zero_iff.1 (pqS_ok (swo fun _:Unit=>0) []).1.length_eq
  rw [e] at this
  exact ⟨[],.refl _,List.Pairwise.nil,this⟩
 | cons y ys =>
  generalize hd:y::ys=l at *
  have:Inhabited {p:Pt // p∈l}:=⟨⟨y,by rw [← hd];exact List.mem_cons_self ..⟩⟩
  have ok:=pqS_ok (swo fun p:{p:Pt // p∈l}=>p.1.id) l.attach
  have key:=sort_muE (P:=Tryz.prog) (ρ:=Tryz.sortPt_ren) (α:={p:Pt // p∈l}) (k:=3) Tryz.sortPt (by decide) Tryz.isAgg43 Tryz.sizeOf43 (fun p=>[.int .i64 p.1.id,.int .i64 p.1.a,.int .i64 p.1.b]) (fun _=>rfl) (fun p v hv=>by
    have hc:=cpt_ok (hl p.1 p.2)
    simp at hv
    rcases hv with rfl|rfl|rfl
    all_goals exact ⟨rfl,WD_v.1 (wd_i64.2 (by omega))⟩) (fun p q=>cmpN p.1.id q.1.id) (swo fun p:{p:Pt // p∈l}=>p.1.id) (g:=48) (caps:=[]) (fun _ _=>Tryz.call48 _ _) (fun _ _=>Tryz.call47 _ _)
   (fun p q=>tsort1_fnd p.1 q.1) l.attach (by simp;omega)
  have e1:(l.attach.map fun p=>([.int .i64 p.1.id,.int .i64 p.1.a,.int .i64 p.1.b]:List Value).map D.v)=l.map Pt.c:=by
   rw [show (fun p:{p:Pt // p∈l}=>([.int .i64 p.1.id,.int .i64 p.1.a,.int .i64 p.1.b]:List Value).map D.v)=Pt.c ∘ Subtype.val from rfl,← List.map_map,List.attach_map_subtype_val]
  rw [e1] at key
  refine ⟨(pqS (fun p q:{p:Pt // p∈l}=>cmpN p.1.id q.1.id) l.attach).map Subtype.val,?_,?_,?_⟩
  ·have:=ok.1.map Subtype.val
   rwa [List.attach_map_subtype_val] at this
  ·rw [List.pairwise_map]
   refine ok.2.imp fun {a b} h => ?_
   unfold ltOf cmpN at h
   simp only [decide_eq_false_iff_not] at h
   (repeat' split at h)<;>omega
  ·rw [List.map_map]
   exact key
end Go.Proofs.YtfkfficabeclcaaGreatDoor

namespace Go.Proofs.YtfkfficabeclcaaGreatDoor
open Go Go.RowKit Go.Sort Sx
open Go.Lib hiding intOf
set_option maxRecDepth 2000
theorem tchk_of {m:Md} (h:mchk m=0):tchk m.l m.n m.d=0:=by
 obtain ⟨h1,h2⟩:=mchk_ok h
 unfold tchk
 rw [if_pos h2]
 exact (askd_ok h1).1
theorem closV_few {m:Md} (h:mchk m=0) (h2:m.l.length<2):closV m.l m.n m.d=(0,0,0,0,42):=by
 obtain ⟨h1,h3⟩:=mchk_ok h
 unfold closV
 rw [if_pos h3,if_pos h1,if_pos h2]
theorem closV_many {m:Md} (h:mchk m=0) (h2:¬ m.l.length<2):(closV m.l m.n m.d).2.2.2.2=0:=by
 obtain ⟨h1,h3⟩:=mchk_ok h
 unfold closV
 rw [if_pos h3,if_pos h1,if_neg h2]
theorem joined1 {w:Str} {a:Pp} (hw:w.length≤100) (h1:a.ok):FnOK Tryz.prog 38 [.one (str w),.one (.list 1 [[.v a.v]])] (.c (.one (str (joinS [w,a.s])))):=joined_fn w [a] hw (by simp) (fun p hp=>by obtain rfl:=List.mem_singleton.1 hp;exact h1)
theorem joined3 {w:Str} {a b c:Pp} (hw:w.length≤100) (h1:a.ok) (h2:b.ok) (h3:c.ok):FnOK Tryz.prog 38 [.one (str w),.one (.list 1 [[.v a.v],[.v b.v],[.v c.v]])] (.c (.one (str (joinS [w,a.s,b.s,c.s])))):=joined_fn w [a,b,c] hw (by simp) (fun p hp=>by
 simp only [List.mem_cons,List.not_mem_nil,or_false] at hp
 rcases hp with rfl|rfl|rfl<;>assumption)
set_option maxRecDepth 100000 in
set_option maxHeartbeats 4000000 in
theorem tlines_fn (m:Md) (hm:mchk m=0):FnOK Tryz.prog 50 [m.dc] (.tup [.one (strs (linesV m)),.one (i64 0)]):=by
 obtain ⟨g1,g2⟩:=mchk_ok hm
 obtain ⟨k1,k2,k3⟩:=fchk_ok g2
 have HO:=fOrder_fn m.l m.n m.d
 unfold orderV at HO
 rw [if_pos (tchk_of hm)] at HO
 simp only [retO] at HO
 have HC:=oClosest_fn m.l m.n m.d
 have HN:=mNext_fn (n:=m.n) (e:=m.d) g2 (askd_ok g1).1
 have a5:=askd_ok g1
 have hol:(ordV m.l m.n m.d).length=m.l.length:=by unfold ordV;rw [List.length_map,srt_len]
 have hil:((ordV m.l m.n m.d).map fun i=>[i64 i]).length=m.l.length:=by rw [List.length_map,hol]
 have J1:FnOK Tryz.prog 38 [.one (str [116,105,109,101]),.one (.list 1 [[.v (.iface 25 (.agg #[.int .i64 m.n,.int .i64 m.d]))]])] (.c (.one (str (joinS [wTime,(numV m.n m.d).1])))):=joined1 (w:=wTime) (a:=.r m.n m.d) (by decide) ⟨⟨by omega,by omega⟩,⟨by omega,by omega⟩⟩
 have J2:FnOK Tryz.prog 38 [.one (str [32,112,111,105,110,116,115]),.one (.list 1 [[.v (.iface 3 (.int .i64 ((((ordV m.l m.n m.d).map fun i=>[i64 i]).length:Nat):Int)))]])] (.c (.one (str (joinS [wPts,itoa (m.l.length:Int)])))):=by
  rw [hil]
  exact joined1 (w:=wPts) (a:=.i (m.l.length:Int)) (by decide) ⟨by omega,by omega⟩
 have l1:(joinS [wTime,(numV m.n m.d).1]).length≤100:=by
  have:=numV_len (n:=m.n) (d:=m.d) ⟨by omega,by omega⟩ ⟨by omega,by omega⟩
  show (wTime++32::(numV m.n m.d).1).length≤100
  simp [wTime];omega
 have l2:(joinS [wPts,itoa (m.l.length:Int)]).length≤100:=by
  have:=itoa_le (n:=(m.l.length:Int)) ⟨by omega,by omega⟩
  show (wPts++32::itoa _).length≤100
  simp [wPts];omega
 have hhead:headB m=joinS [wTime,(numV m.n m.d).1]++joinS [wPts,itoa (m.l.length:Int)]:=rfl
 generalize joinS [wTime,(numV m.n m.d).1]=A at *
 generalize joinS [wPts,itoa (m.l.length:Int)]=B at *
 have hkl:=rowsK_len m.n m.d (srt m.n m.d m.l)
 have hsl:(srt m.n m.d m.l).length=m.l.length:=srt_len ..
 have hlin:(linesV m).map (fun s=>[str s])=((headB m::rowsK m.n m.d (srt m.n m.d m.l) m.l.length).map fun s=>[str s])++[[str (clsB m)],[str (nxtB m)]]:=by
  unfold linesV
  rw [List.map_append]
  rfl
 show FnOK _ _ _ (.tup [.one (.list 1 ((linesV m).map fun s=>[str s])),.one (i64 0)])
 rw [hlin]
 clear hlin
 have JC:¬ m.l.length<2→FnOK Tryz.prog 38 [.one (str [99,108,111,115,101,115,116]),.one (.list 1 [[.v (.iface 3 (.int .i64 (closV m.l m.n m.d).1))],[.v (.iface 3 (.int .i64 (closV m.l m.n m.d).2.1))],[.v (.iface 25 (.agg #[.int .i64 (closV m.l m.n m.d).2.2.1,.int .i64 (closV m.l m.n m.d).2.2.2.1]))]])] (.c (.one (str (clsB m)))):=fun h=>by
  obtain ⟨p1,p2,p3,p4,p5,p6,p7⟩:=pairC_ok k2 g1 (show 2≤m.l.length by omega)
  have i1:=Pt.chk_ok (k2 _ (List.getElem_mem p6))
  have i2:=Pt.chk_ok (k2 _ (List.getElem_mem p7))
  have e:closV m.l m.n m.d=((m.l[(pairC m.l m.n m.d).1]?.getD default).id,(m.l[(pairC m.l m.n m.d).2.1]?.getD default).id,(pairC m.l m.n m.d).2.2.1,(pairC m.l m.n m.d).2.2.2,0):=by
   unfold closV
   rw [if_pos g2,if_pos g1,if_neg h]
  unfold clsB
  rw [if_neg h,e,List.getElem?_eq_getElem p6,List.getElem?_eq_getElem p7]
  simp only [Option.getD_some]
  exact joined3 (w:=wClst) (a:=.i _) (b:=.i _) (c:=.r _ _) (by decide) ⟨by omega,by omega⟩ ⟨by omega,by omega⟩ ⟨⟨by omega,by omega⟩,⟨by omega,by omega⟩⟩
 have JN:(nxtV m.l m.n m.d).2=0→FnOK Tryz.prog 38 [.one (str [110,101,120,116]),.one (.list 1 [[.v (.iface 25 (.agg #[.int .i64 (nxtV m.l m.n m.d).1.n,.int .i64 (nxtV m.l m.n m.d).1.d]))],[.v (.iface 3 (.int .i64 (nxtV m.l m.n m.d).1.i))],[.v (.iface 3 (.int .i64 (nxtV m.l m.n m.d).1.j))]])] (.c (.one (str (nxtB m)))):=fun h=>by
  have ho:(nxtV m.l m.n m.d).1.ok:=by
   unfold nxtV at h ⊢
   split at h
   ·rename_i hlt
    rw [dif_pos hlt]
    exact (outs_ok g2 _ (msrt_mem.1 (List.getElem_mem hlt))).1
   ·cases h
  obtain ⟨o1,o2,o3,o4,o5⟩:=ho
  have:=(chk_iff _ _).1 o1
  unfold nxtB
  rw [if_pos h]
  exact joined3 (w:=wNext) (a:=.r _ _) (b:=.i _) (c:=.i _) (by decide) ⟨o2,⟨by omega,by omega⟩⟩ o4 ⟨by omega,by omega⟩
 have C0:clsB m=if m.l.length<2 then wClst0 else clsB m:=by
  split
  ·rename_i h;unfold clsB;rw [if_pos h]
  ·rfl
 have N0:(nxtV m.l m.n m.d).2≠0→nxtB m=wNext0:=fun h=>by unfold nxtB;rw [if_neg h]
 have hfew:=closV_few hm
 have hmany:=closV_many hm
 generalize clsB m=cB at *
 generalize nxtB m=nB at *
 generalize closV m.l m.n m.d=cV at *
 generalize nxtV m.l m.n m.d=nV at *
 obtain ⟨c1,c2,c3,c4,c5⟩:=cV
 obtain ⟨⟨n1,n2,n3,n4⟩,n5⟩:=nV
 simp only [retC,retNx,Mt.dc] at HC HN JC JN N0 hfew hmany
 refine fn_ok (by kernel_rfl) (ty_okKB [42,84,131] [] [] []) Tryz.func50 rfl (fun _ _=>Tryz.call50 _ _) rfl ?_
 intro hw
 clear hw
 repeat' ((conv=>whnf);first|(with_reducible first|refine br_t ?_|refine br_f ?_|refine za ?_|refine zg ?_|refine zo ?_)|refine zmi ?_|refine zml ?_|refine zmr ?_|refine zsl ?_|refine zsg ?_|refine zss ?_|refine zs1 ?_|refine zse ?_|refine zsn ?_|refine zsc ?_|(with_reducible first|refine zpa ?_|refine zqa ?_)|refine zp ?_|refine zq ?_|(with_reducible first|refine bc (fun h => ?_) (fun h => ?_)|refine zt ?_|refine zf ?_|refine br_i (fun h => ?_) (fun h => ?_))|refine zg ?_|refine zi ?_|refine zb ?_|refine zl ?_)
 all_goals conv=>whnf
 refine loop_keep [1,43,44,45,6] ?_
 conv=>whnf
 refine loop_J (by kernel_rfl) (ty_okKB [42,84,131] [] [] []) (σ:=Nat) (fun i=>[(45,sV (.int .i64 (i:Nat))),(6,.c (.at (.osl 42 0)))]) (fun i=>[(42,.row 1 ((headB m::rowsK m.n m.d (srt m.n m.d m.l) i).map fun s=>[str s]) 0)]) (fun i=>i≤m.l.length) (fun i=>m.l.length-i) 0 (Nat.zero_le _) ?_ ?_
 ·rw [hhead]
  (conv=>whnf);exact zent
 intro i hi
 have hki:=hkl i (by omega)
 have hrl:((headB m::rowsK m.n m.d (srt m.n m.d m.l) i).map fun s=>[str s]).length=i+1:=by rw [List.length_map,List.length_cons,hki]
 rcases Nat.lt_or_ge i m.l.length with hlt|hge
 ·have his:i<(srt m.n m.d m.l).length:=by omega
  have hel:((ordV m.l m.n m.d).map fun i=>[i64 i])[((i:Nat):Int).toNat]? = some [i64 (srt m.n m.d m.l)[i].id]:=by
   unfold ordV
   rw [Int.toNat_natCast,List.getElem?_map,List.getElem?_map,List.getElem?_eq_getElem his];rfl
  have hpm:(srt m.n m.d m.l)[i]∈m.l:=(srt_perm m.n m.d m.l).mem_iff.1 (List.getElem_mem his)
  have hpc:=k2 _ hpm
  have hs:=rowsK_succ (n:=m.n) (d:=m.d) his
  have HF:=fFind_fn m.l (srt m.n m.d m.l)[i].id
  rw [findV_mem g2 hpm] at HF
  have hplc:=plc_ok hpc g1
  have hpk:=Pt.chk_ok hpc
  generalize (srt m.n m.d m.l)[i]=p at *
  have HA:=kAt_fn p.id p.a p.b m.n m.d
  rw [hplc.1] at HA
  have HI:=ito_fn (n:=((i+1:Nat):Int))
  have ew:IntKind.i64.wrap ((i:Int)+1)=((i+1:Nat):Int):=by rw [IntWalk.i64_in _ (by omega)];omega
  have J3:FnOK Tryz.prog 38 [.one (str (itoa ((i+1:Nat):Int))),.one (.list 1 [[.v (.iface 3 (.int .i64 p.id))],[.v (.iface 25 (.agg #[.int .i64 (plc p m.n m.d).1,.int .i64 (plc p m.n m.d).2]))],[.v (.iface 2 (.int .i64 p.b))]])] (.c (.one (str (rowB m.n m.d i p)))) :=
   joined3 (a:=.i p.id) (b:=.r (plc p m.n m.d).1 (plc p m.n m.d).2) (c:=.l p.b) (Nat.le_trans (itoa_le ⟨by omega,by omega⟩) (by decide)) ⟨by omega,by omega⟩ ⟨⟨by omega,by omega⟩,⟨by omega,by omega⟩⟩ ⟨by omega,by omega⟩
  have hss:((headB m::rowsK m.n m.d (srt m.n m.d m.l) i).map fun s=>[str s])++[[str (rowB m.n m.d i p)]]=(headB m::rowsK m.n m.d (srt m.n m.d m.l) (i+1)).map fun s=>[str s]:=by rw [hs];simp
  rw [← ew] at HI J3
  clear hs hplc HC HN JC JN C0 N0 hfew hmany J1 J2
  generalize rowB m.n m.d i p=R at *
  generalize plc p m.n m.d=q at *
  obtain ⟨q1,q2⟩:=q
  obtain ⟨p1,p2,p3⟩:=p
  simp only [retPt,Pt.dc,ret3] at *
  repeat' ((conv=>whnf);first|(with_reducible first|refine br_t ?_|refine br_f ?_|refine za ?_|refine zg ?_|refine zo ?_)|refine zmi ?_|refine zml ?_|refine zmr ?_|refine zsl ?_|refine zsg ?_|refine zss ?_|refine zs1 ?_|refine zse ?_|refine zsn ?_|refine zsc ?_|(with_reducible first|refine zpa ?_|refine zqa ?_)|refine zp ?_|refine zq ?_|(with_reducible first|refine bc (fun h => ?_) (fun h => ?_)|refine zt ?_|refine zf ?_|refine br_i (fun h => ?_) (fun h => ?_))|refine zg ?_|refine zi ?_|refine zb ?_|refine zl ?_)
  all_goals conv=>whnf
  refine ⟨i+1,hlt,?_,by omega⟩
  (conv=>whnf);refine ⟨by repeat' (first|with_reducible exact zE0|with_reducible refine zE1 ?_ ?_|rfl|assumption|((exact congrArg (fun x=>some (Blk.row 1 x 0)) hss))|exact zi1|exact zb1),by repeat' (first|with_reducible exact zH0|with_reducible refine zH1 ?_ ?_|rfl|assumption|((exact congrArg (fun x=>some (Blk.row 1 x 0)) hss))),rfl⟩
 ·obtain rfl:i=m.l.length:=by omega
  generalize ((headB m::rowsK m.n m.d (srt m.n m.d m.l) m.l.length).map fun s=>[str s])=OUT at *
  by_cases hn:n5=0
  ·subst hn
   have JN:=JN rfl
   by_cases h2:m.l.length<2
   ·rw [if_pos h2] at C0
    subst C0
    have hfew:=hfew h2
    simp only [Prod.mk.injEq] at hfew
    obtain ⟨rfl,rfl,rfl,rfl,rfl⟩:=hfew
    clear JC hmany N0
    repeat' ((conv=>whnf);first|(with_reducible first|refine br_t ?_|refine br_f ?_|refine za ?_|refine zg ?_|refine zo ?_)|refine zmi ?_|refine zml ?_|refine zmr ?_|refine zsl ?_|refine zsg ?_|refine zss ?_|refine zs1 ?_|refine zse ?_|refine zsn ?_|refine zsc ?_|(with_reducible first|refine zpa ?_|refine zqa ?_)|refine zp ?_|refine zq ?_|(with_reducible first|refine bc (fun h => ?_) (fun h => ?_)|refine zt ?_|refine zf ?_|refine br_i (fun h => ?_) (fun h => ?_))|refine zg ?_|refine zi ?_|refine zb ?_|refine zl ?_)
    all_goals conv=>whnf
    all_goals rfl
   ·have JC:=JC h2
    obtain rfl:c5=0:=hmany h2
    clear C0 hfew hmany N0
    repeat' ((conv=>whnf);first|(with_reducible first|refine br_t ?_|refine br_f ?_|refine za ?_|refine zg ?_|refine zo ?_)|refine zmi ?_|refine zml ?_|refine zmr ?_|refine zsl ?_|refine zsg ?_|refine zss ?_|refine zs1 ?_|refine zse ?_|refine zsn ?_|refine zsc ?_|(with_reducible first|refine zpa ?_|refine zqa ?_)|refine zp ?_|refine zq ?_|(with_reducible first|refine bc (fun h => ?_) (fun h => ?_)|refine zt ?_|refine zf ?_|refine br_i (fun h => ?_) (fun h => ?_))|refine zg ?_|refine zi ?_|refine zb ?_|refine zl ?_)
    all_goals conv=>whnf
    all_goals rfl
  ·obtain rfl:=N0 hn
   by_cases h2:m.l.length<2
   ·rw [if_pos h2] at C0
    subst C0
    have hfew:=hfew h2
    simp only [Prod.mk.injEq] at hfew
    obtain ⟨rfl,rfl,rfl,rfl,rfl⟩:=hfew
    clear JC JN hmany
    repeat' ((conv=>whnf);first|(with_reducible first|refine br_t ?_|refine br_f ?_|refine za ?_|refine zg ?_|refine zo ?_)|refine zmi ?_|refine zml ?_|refine zmr ?_|refine zsl ?_|refine zsg ?_|refine zss ?_|refine zs1 ?_|refine zse ?_|refine zsn ?_|refine zsc ?_|(with_reducible first|refine zpa ?_|refine zqa ?_)|refine zp ?_|refine zq ?_|(with_reducible first|refine bc (fun h => ?_) (fun h => ?_)|refine zt ?_|refine zf ?_|refine br_i (fun h => ?_) (fun h => ?_))|refine zg ?_|refine zi ?_|refine zb ?_|refine zl ?_)
    all_goals conv=>whnf
    all_goals rfl
   ·have JC:=JC h2
    obtain rfl:c5=0:=hmany h2
    clear C0 hfew hmany JN
    repeat' ((conv=>whnf);first|(with_reducible first|refine br_t ?_|refine br_f ?_|refine za ?_|refine zg ?_|refine zo ?_)|refine zmi ?_|refine zml ?_|refine zmr ?_|refine zsl ?_|refine zsg ?_|refine zss ?_|refine zs1 ?_|refine zse ?_|refine zsn ?_|refine zsc ?_|(with_reducible first|refine zpa ?_|refine zqa ?_)|refine zp ?_|refine zq ?_|(with_reducible first|refine bc (fun h => ?_) (fun h => ?_)|refine zt ?_|refine zf ?_|refine br_i (fun h => ?_) (fun h => ?_))|refine zg ?_|refine zi ?_|refine zb ?_|refine zl ?_)
    all_goals conv=>whnf
    all_goals rfl
end Go.Proofs.YtfkfficabeclcaaGreatDoor

namespace Go.Proofs.YtfkfficabeclcaaGreatDoor
open Go Go.RowKit Go.Sort Sx
open Go.Lib hiding intOf
set_option maxRecDepth 2000
theorem tStanding_fn (m:Md):FnOK Tryz.prog 17 [m.dc] (retS (standV m)):=by
 have HC:=oCheck_fn m
 unfold standV
 by_cases h:mchk m=0
 ·rw [if_pos h]
  have HL:=tlines_fn m h
  have hne:linesV m≠[]:=by unfold linesV;simp
  have hlen:=linesV_len m
  have hk:=(fchk_ok (mchk_ok h).2).1
  have hst:=nlS_join hne
  have hb:=stT_len h
  unfold stT at hb ⊢
  rw [hst,List.length_append,List.length_singleton] at hb
  rw [hst]
  have HJ:FnOK Tryz.prog 51 [.one (strs (linesV m)),.one (str [10])] (.c (.one (str (joinC 10 (linesV m))))):=join_fn (by omega) (by omega)
  rw [h] at HC
  clear h hst hne
  generalize linesV m=L at *
  generalize joinC 10 L=J at *
  obtain ⟨n,d,l⟩:=m
  simp only [retS,Md.dc] at *
  refine fn_ok (by kernel_rfl) ty_ok Tryz.func17 rfl (fun _ _=>Tryz.call17 _ _) rfl ?_
  intro hw
  clear hw
  repeat' ((conv=>whnf);first|(with_reducible first|refine br_t ?_|refine br_f ?_|refine za ?_|refine zg ?_)|refine zsl ?_|refine zsg ?_|refine zss ?_|refine zs1 ?_|refine zse ?_|refine zsn ?_|refine zsc ?_|(with_reducible first|refine zpa ?_|refine zqa ?_)|refine zp ?_|refine zq ?_|(with_reducible first|refine bc (fun h => ?_) (fun h => ?_)|refine zt ?_|refine zf ?_|refine br_i (fun h => ?_) (fun h => ?_))|refine zg ?_|refine zi ?_|refine zb ?_)
  all_goals conv=>whnf
  all_goals rfl
 ·rw [if_neg h]
  generalize mchk m=z at *
  obtain ⟨n,d,l⟩:=m
  simp only [retS,Md.dc] at *
  refine fn_ok (by kernel_rfl) ty_ok Tryz.func17 rfl (fun _ _=>Tryz.call17 _ _) rfl ?_
  intro hw
  clear hw
  repeat' ((conv=>whnf);first|(with_reducible first|refine br_t ?_|refine br_f ?_|refine za ?_|refine zg ?_)|refine zsl ?_|refine zsg ?_|refine zss ?_|refine zs1 ?_|refine zse ?_|refine zsn ?_|refine zsc ?_|(with_reducible first|refine zpa ?_|refine zqa ?_)|refine zp ?_|refine zq ?_|(with_reducible first|refine bc (fun h => ?_) (fun h => ?_)|refine zt ?_|refine zf ?_|refine br_i (fun h => ?_) (fun h => ?_))|refine zg ?_|refine zi ?_|refine zb ?_)
  all_goals conv=>whnf
  all_goals rfl
end Go.Proofs.YtfkfficabeclcaaGreatDoor

namespace Go.Proofs.YtfkfficabeclcaaGreatDoor
open Go Go.RowKit Go.Sort Sx
open Go.Lib hiding intOf
set_option maxRecDepth 2000
theorem rdRws_step0 {f:List Str→Option Pt} {R:List Str} {i:Nat} {A:List Pt} (hi:i<R.length) (h:rdRws f (R.take i)=some A):rdRws f (R.take (i+1))=(f (spl 32 R[i])).map fun p=>A++[p]:=by
 rw [List.take_succ_eq_append_getElem hi,rdRws_app,h]
 dsimp only
 rw [rdRws_one]
 cases f (spl 32 R[i])<;>rfl
theorem rdRws_stop0 {f:List Str→Option Pt} {R:List Str} {i:Nat} (h:rdRws f (R.take (i+1))=none):rdRws f R=none:=by
 have e:R=R.take (i+1)++R.drop (i+1):=(List.take_append_drop _ _).symm
 rw [e,rdRws_app,h]
theorem rdRws_ok {n d:Int}:∀ {l:List Str} {A:List Pt},rdRws (pcdP n d) l=some A→∀ p∈A,p.chk=0
 | [],A,h,p,hp=>by rw [rdRws] at h;injection h with h;subst h;cases hp
 | x::l,A,h,p,hp=>by
  rw [rdRws] at h
  cases h1:pcdP n d (spl 32 x) with
  | none=>rw [h1] at h;cases h
  | some q =>
   rw [h1] at h
   dsimp only at h
   cases h2:rdRws (pcdP n d) l with
   | none=>rw [h2] at h;cases h
   | some r =>
    rw [h2] at h
    injection h with h
    subst h
    rcases List.mem_cons.1 hp with rfl|hp
    ·rw [pcX_is] at h1
     split at h1
     ·unfold plcV at h1
      split at h1
      ·split at h1
       ·rename_i hc
        injection h1 with h1
        rw [← h1]
        exact hc.2.2
       ·cases h1
      ·cases h1
     ·cases h1
    ·exact rdRws_ok h2 p hp
set_option maxRecDepth 100000 in
set_option maxHeartbeats 8000000 in
theorem tReadStanding_fn (s:Str) (hs1:s.length≤999999):FnOK Tryz.prog 16 [.one (str s)] (retMe (sreadP s)):=by
 unfold sreadP
 by_cases hb:110000<s.length
 ·rw [if_pos hb]
  simp only [retMe,Md.dc,pts,List.map_nil]
  refine fn_ok (by kernel_rfl) (ty_okKB [71] [47] [] []) Tryz.func16 rfl (fun _ _=>Tryz.call16 _ _) rfl ?_
  intro hw
  clear hw
  repeat' ((conv=>whnf);first|(with_reducible first|refine br_t ?_|refine br_f ?_|refine za ?_|refine zg ?_|refine zo ?_|refine zm ?_)|refine zsl ?_|refine zsg ?_|refine zss ?_|refine zs1 ?_|refine zse ?_|refine zsn ?_|refine zsc ?_|(with_reducible first|refine zpa ?_|refine zqa ?_)|refine zp ?_|refine zq ?_|(with_reducible first|refine bc (fun h => ?_) (fun h => ?_)|refine zt ?_|refine zf ?_|refine br_i (fun h => ?_) (fun h => ?_))|refine zg ?_|refine zi ?_|refine zb ?_|refine zl ?_)
  all_goals conv=>whnf
  all_goals rfl
 rw [if_neg hb]
 have Hs:FnOK Tryz.prog 44 [.one (str s),.one (str [10])] (.c (.one (strs (spl 10 s)))):=split_fn (s:=s) (c:=10) (by omega)
 have hl1:=spl_len 10 s
 have hl2:=spl_each 10 s
 unfold srdP srdG
 obtain ⟨w0,t,hL⟩:∃ w0 t,spl 10 s=w0::t:=by
  cases h:spl 10 s with
  | nil=>exact absurd h (spl_ne 10 s)
  | cons a b=>exact ⟨a,b,rfl⟩
 have hhd:(spl 10 s).headD []=w0:=by rw [hL];rfl
 have g0:((spl 10 s).map fun s=>[str s])[(0:Int).toNat]? = some [str w0]:=by rw [hL];rfl
 have h0:=hl2 w0 (by rw [hL];exact List.mem_cons_self ..)
 have hL0:0<(spl 10 s).length:=by rw [hL];simp
 rw [hhd]
 clear hL hhd
 generalize spl 10 s=L at *
 have Hs2:FnOK Tryz.prog 44 [.one (str w0),.one (str [32])] (.c (.one (strs (spl 32 w0)))):=split_fn (s:=w0) (c:=32) (by omega)
 have hf2:=spl_each 32 w0
 generalize spl 32 w0=F at *
 have hLl:(L.map fun s=>[str s]).length=L.length:=List.length_map ..
 have hFl:(F.map fun s=>[str s]).length=F.length:=List.length_map ..
 by_cases hA:L.length<4∨68<L.length∨F.length≠4
 ·rw [if_pos hA]
  show FnOK _ _ _ (retMe (⟨0,0,[]⟩,12))
  simp only [retMe,Md.dc,pts,List.map_nil]
  rcases Nat.lt_or_ge L.length 4 with h4|h4
  ·refine fn_ok (by kernel_rfl) (ty_okKB [71] [47] [] []) Tryz.func16 rfl (fun _ _=>Tryz.call16 _ _) rfl ?_
   intro hw
   clear hw
   repeat' ((conv=>whnf);first|(with_reducible first|refine br_t ?_|refine br_f ?_|refine za ?_|refine zg ?_|refine zo ?_|refine zm ?_)|refine zsl ?_|refine zsg ?_|refine zss ?_|refine zs1 ?_|refine zse ?_|refine zsn ?_|refine zsc ?_|(with_reducible first|refine zpa ?_|refine zqa ?_)|refine zp ?_|refine zq ?_|(with_reducible first|refine bc (fun h => ?_) (fun h => ?_)|refine zt ?_|refine zf ?_|refine br_i (fun h => ?_) (fun h => ?_))|refine zg ?_|refine zi ?_|refine zb ?_|refine zl ?_)
   all_goals conv=>whnf
   all_goals rfl
  ·rcases Nat.lt_or_ge 68 L.length with h5|h5
   ·refine fn_ok (by kernel_rfl) (ty_okKB [71] [47] [] []) Tryz.func16 rfl (fun _ _=>Tryz.call16 _ _) rfl ?_
    intro hw
    clear hw
    repeat' ((conv=>whnf);first|(with_reducible first|refine br_t ?_|refine br_f ?_|refine za ?_|refine zg ?_|refine zo ?_|refine zm ?_)|refine zsl ?_|refine zsg ?_|refine zss ?_|refine zs1 ?_|refine zse ?_|refine zsn ?_|refine zsc ?_|(with_reducible first|refine zpa ?_|refine zqa ?_)|refine zp ?_|refine zq ?_|(with_reducible first|refine bc (fun h => ?_) (fun h => ?_)|refine zt ?_|refine zf ?_|refine br_i (fun h => ?_) (fun h => ?_))|refine zg ?_|refine zi ?_|refine zb ?_|refine zl ?_)
    all_goals conv=>whnf
    all_goals rfl
   ·have h6:F.length≠4:=by omega
    refine fn_ok (by kernel_rfl) (ty_okKB [71] [47] [] []) Tryz.func16 rfl (fun _ _=>Tryz.call16 _ _) rfl ?_
    intro hw
    clear hw
    repeat' ((conv=>whnf);first|(with_reducible first|refine br_t ?_|refine br_f ?_|refine za ?_|refine zg ?_|refine zo ?_|refine zm ?_)|refine zsl ?_|refine zsg ?_|refine zss ?_|refine zs1 ?_|refine zse ?_|refine zsn ?_|refine zsc ?_|(with_reducible first|refine zpa ?_|refine zqa ?_)|refine zp ?_|refine zq ?_|(with_reducible first|refine bc (fun h => ?_) (fun h => ?_)|refine zt ?_|refine zf ?_|refine br_i (fun h => ?_) (fun h => ?_))|refine zg ?_|refine zi ?_|refine zb ?_|refine zl ?_)
    all_goals conv=>whnf
    all_goals rfl
 rw [if_neg hA]
 simp only [not_or,Nat.not_lt] at hA
 obtain ⟨hA1,hA2,hA3⟩:=hA
 have hA3:F.length=4:=Decidable.not_not.1 hA3
 match F,hA3 with
 | [f0,f1,f2,f3],_ =>
  have l1:=hf2 f1 (by simp)
  have HP:=now_ptr f1 (by omega)
  simp only [List.getD_cons_succ,List.getD_cons_zero]
  cases hq:frV f1 with
  | none =>
   rw [hq] at HP
   show FnOK _ _ _ (retMe (⟨0,0,[]⟩,12))
   simp only [Option.isSome,Option.getD] at HP
   simp only [retMe,Md.dc,pts,List.map_nil]
   refine fn_ok (by kernel_rfl) (ty_okKB [71] [47] [] []) Tryz.func16 rfl (fun _ _=>Tryz.call16 _ _) rfl ?_
   intro hw
   clear hw
   repeat' ((conv=>whnf);first|(with_reducible first|refine br_t ?_|refine br_f ?_|refine za ?_|refine zg ?_|refine zo ?_|refine zm ?_)|refine zbr ?_|refine ⟨_,_,HP,?_⟩|refine zsl ?_|refine zsg ?_|refine zss ?_|refine zs1 ?_|refine zse ?_|refine zsn ?_|refine zsc ?_|(with_reducible first|refine zpa ?_|refine zqa ?_)|refine zp ?_|refine zq ?_|(with_reducible first|refine bc (fun h => ?_) (fun h => ?_)|refine zt ?_|refine zf ?_|refine br_i (fun h => ?_) (fun h => ?_))|refine zg ?_|refine zi ?_|refine zb ?_|refine zl ?_)
   all_goals conv=>whnf
   all_goals rfl
  | some q =>
   rw [hq] at HP
   obtain ⟨n,d⟩:=q
   simp only [Option.isSome,Option.getD] at HP
   dsimp only
   have ew3:IntKind.i64.wrap (((L.map fun s=>[str s]).length:Int)-3)=((L.length-3:Nat):Int):=by rw [hLl,IntWalk.i64_in _ (by omega)];omega
   obtain ⟨R,hR⟩:∃ R,R=(L.take (L.length-3)).drop 1:=⟨_,rfl⟩
   rw [← hR]
   have hRm:∀ x∈R,x.length≤s.length:=fun x hx=>hl2 x (List.mem_of_mem_take (List.mem_of_mem_drop (by rw [hR] at hx;exact hx)))
   have hRn:R.length=L.length-4:=by rw [hR];simp;omega
   obtain ⟨X,hX⟩:∃ X,X=backS s ((rdRws (pcdP n d) R).map fun l=>(n,d,l)):=⟨_,rfl⟩
   rw [← hX]
   obtain ⟨⟨X1,X2,X3⟩,X4⟩:=X
   simp only [retMe,Md.dc]
   refine fn_ok (by kernel_rfl) (ty_okKB [71] [47] [] []) Tryz.func16 rfl (fun _ _=>Tryz.call16 _ _) rfl ?_
   intro hw
   clear hw
   repeat' ((conv=>whnf);first|(with_reducible first|refine br_t ?_|refine br_f ?_|refine za ?_|refine zg ?_|refine zo ?_|refine zm ?_)|refine zbr ?_|refine ⟨_,_,HP,?_⟩|refine zsl ?_|refine zsg ?_|refine zss ?_|refine zs1 ?_|refine zse ?_|refine zsn ?_|refine zsc ?_|(with_reducible first|refine zpa ?_|refine zqa ?_)|refine zp ?_|refine zq ?_|(with_reducible first|refine bc (fun h => ?_) (fun h => ?_)|refine zt ?_|refine zf ?_|refine br_i (fun h => ?_) (fun h => ?_))|refine zg ?_|refine zi ?_|refine zb ?_|refine zl ?_)
   all_goals conv=>whnf
   have hRR:List.drop (1:Int).toNat (List.take (IntKind.i64.wrap (((L.map fun s=>[str s]).length:Int)-3)).toNat (L.map fun s=>[str s]))=R.map fun s=>[str s]:=by
    rw [ew3,Int.toNat_natCast,hR,List.map_drop,List.map_take]
    rfl
   rw [hRR]
   have hRl:(R.map fun s=>[str s]).length=R.length:=List.length_map ..
   clear hRR
   refine loop_nameH 6 2 100 rfl rfl rfl ?_
   refine loop_J (by kernel_rfl) (ty_okKB [71] [47] [] []) (σ:=Nat × List Pt) (fun x=>[(51,sV (.int .i64 (x.1:Nat)))]) (fun x=>[(6,.own [.d (i64 n),.d (i64 d),.osl 100 0]),(100,.row 3 (x.2.map Pt.c) 0)]) (fun x=>x.1≤R.length∧rdRws (pcdP n d) (R.take x.1)=some x.2) (fun x=>R.length-x.1) (0,[]) ⟨Nat.zero_le _,by rw [List.take_zero];rfl⟩ ?_ ?_
   ·(conv=>whnf);exact zent
   rintro ⟨i,A⟩ ⟨hi2,hI⟩
   dsimp only at hi2 hI
   have hAl:=rdRws_len _ hI
   have hAl2:A.length≤68:=by rw [hAl];simp;omega
   have hAl3:(A.map Pt.c).length=A.length:=List.length_map ..
   rcases Nat.lt_or_ge i R.length with hlt|hge
   ·have hel:(R.map fun s=>[str s])[((i:Nat):Int).toNat]? = some [str R[i]]:=by
     rw [Int.toNat_natCast,List.getElem?_map,List.getElem?_eq_getElem hlt];rfl
    have hli:=hRm R[i] (List.getElem_mem hlt)
    have hst:=rdRws_step0 hlt hI
    have hsp:=fun h=>rdRws_stop0 (f:=pcdP n d) (R:=R) (i:=i) h
    have Hc:FnOK Tryz.prog 44 [.one (str R[i]),.one (str [32])] (.c (.one (strs (spl 32 R[i])))):=split_fn (s:=R[i]) (c:=32) (by omega)
    have hwe:=spl_each 32 R[i]
    have hwl:=spl_len 32 R[i]
    generalize R[i]=line at *
    have Hp:=tplaced_fn (spl 32 line) n d (by omega) (fun x hx=>by have:=hwe x hx;omega)
    have hz:=pcZ_is n d (spl 32 line)
    rw [hz] at hst
    clear hz hwe hwl
    generalize pcZ (pcX (spl 32 line)).1 (pcX (spl 32 line)).2 n d=z at *
    generalize spl 32 line=W at *
    obtain ⟨⟨z1,z2,z3⟩,zb⟩:=z
    have ew:IntKind.i64.wrap ((i:Int)+1)=((i+1:Nat):Int):=by rw [IntWalk.i64_in _ (by omega)];omega
    simp only [retPb,Pt.dc] at Hp
    clear HP
    cases zb
    ·rw [if_neg (by simp)] at hst
     rw [hsp hst] at hX
     have hX:(⟨X1,X2,X3⟩,X4)=((⟨0,0,[]⟩,12):Md × Int):=hX
     injection hX with hX1 hX2
     injection hX1 with hX1 hX3 hX4
     subst hX1 hX2 hX3 hX4
     clear hsp hst hI
     simp only [pts,List.map_nil]
     repeat' ((conv=>whnf);first|(with_reducible first|refine br_t ?_|refine br_f ?_|refine za ?_|refine zg ?_|refine zo ?_|refine zm ?_)|refine zsl ?_|refine zsg ?_|refine zss ?_|refine zs1 ?_|refine zse ?_|refine zsn ?_|refine zsc ?_|(with_reducible first|refine zpa ?_|refine zqa ?_)|refine zp ?_|refine zq ?_|(with_reducible first|refine bc (fun h => ?_) (fun h => ?_)|refine zt ?_|refine zf ?_|refine br_i (fun h => ?_) (fun h => ?_))|refine zg ?_|refine zi ?_|refine zb ?_|refine zl ?_)
     all_goals conv=>whnf
     all_goals rfl
    ·rw [if_pos rfl] at hst
     replace hst:rdRws (pcdP n d) (R.take (i+1))=some (A++[(⟨z1,z2,z3⟩:Pt)]):=hst
     have hap:A.map Pt.c++[[i64 z1,i64 z2,i64 z3]]=(A++[(⟨z1,z2,z3⟩:Pt)]).map Pt.c:=by rw [List.map_append];rfl
     clear hsp hX
     repeat' ((conv=>whnf);first|(with_reducible first|refine br_t ?_|refine br_f ?_|refine za ?_|refine zg ?_|refine zo ?_|refine zm ?_)|refine zsl ?_|refine zsg ?_|refine zss ?_|refine zs1 ?_|refine zse ?_|refine zsn ?_|refine zsc ?_|(with_reducible first|refine zpa ?_|refine zqa ?_)|refine zp ?_|refine zq ?_|(with_reducible first|refine bc (fun h => ?_) (fun h => ?_)|refine zt ?_|refine zf ?_|refine br_i (fun h => ?_) (fun h => ?_))|refine zg ?_|refine zi ?_|refine zb ?_|refine zl ?_)
     all_goals conv=>whnf
     refine ⟨(i+1,A++[⟨z1,z2,z3⟩]),⟨hlt,hst⟩,?_,by simp only;omega⟩
     (conv=>whnf);refine ⟨by repeat' (first|with_reducible exact zE0|with_reducible refine zE1 ?_ ?_|rfl|assumption|((exact congrArg (fun x=>some (Blk.row 3 x 0)) hap))|exact zi1|exact zb1),by repeat' (first|with_reducible exact zH0|with_reducible refine zH1 ?_ ?_|rfl|assumption|((exact congrArg (fun x=>some (Blk.row 3 x 0)) hap))),rfl⟩
   ·obtain rfl:i=R.length:=by omega
    rw [List.take_length] at hI
    rw [hI] at hX
    obtain ⟨B,hp,hsrt,HM⟩:=sortId_mu A (rdRws_ok hI) (by omega)
    have hX:(⟨X1,X2,X3⟩,X4)=backS s (some (n,d,A)):=hX
    have Ht:=tStanding_fn ⟨n,d,B⟩
    unfold standV at Ht
    clear HP
    rcases smd_cases (s:=s) (n:=n) (d:=d) hp hsrt with ⟨h1,h2,h⟩|⟨h1,h2,h⟩|⟨h1,h⟩
    ·rw [if_pos h1,h2] at Ht
     rw [h] at hX
     clear h h1 h2 hI hp hsrt
     simp only [Md.dc,retS] at Ht
     injection hX with hX1 hX2
     injection hX1 with hX1 hX3 hX4
     subst hX1 hX2 hX3 hX4
     repeat' ((conv=>whnf);first|(with_reducible first|refine br_t ?_|refine br_f ?_|refine za ?_|refine zg ?_|refine zo ?_|refine zm ?_)|refine zsl ?_|refine zsg ?_|refine zss ?_|refine zs1 ?_|refine zse ?_|refine zsn ?_|refine zsc ?_|(with_reducible first|refine zpa ?_|refine zqa ?_)|refine zp ?_|refine zq ?_|(with_reducible first|refine bc (fun h => ?_) (fun h => ?_)|refine zt ?_|refine zf ?_|refine br_i (fun h => ?_) (fun h => ?_))|refine zg ?_|refine zi ?_|refine zb ?_|refine zl ?_)
     all_goals conv=>whnf
     all_goals first|rfl|contradiction
    ·rw [if_pos h1] at Ht
     rw [h] at hX
     obtain ⟨T,hT⟩:∃ T,T=stT ⟨n,d,B⟩:=⟨_,rfl⟩
     rw [← hT] at h2 Ht
     clear h h1 hI hp hsrt hT
     simp only [Md.dc,retS] at Ht
     injection hX with hX1 hX2
     injection hX1 with hX1 hX3 hX4
     subst hX1 hX2 hX3 hX4
     simp only [pts,List.map_nil] at *
     repeat' ((conv=>whnf);first|(with_reducible first|refine br_t ?_|refine br_f ?_|refine za ?_|refine zg ?_|refine zo ?_|refine zm ?_)|refine zsl ?_|refine zsg ?_|refine zss ?_|refine zs1 ?_|refine zse ?_|refine zsn ?_|refine zsc ?_|(with_reducible first|refine zpa ?_|refine zqa ?_)|refine zp ?_|refine zq ?_|(with_reducible first|refine bc (fun h => ?_) (fun h => ?_)|refine zt ?_|refine zf ?_|refine br_i (fun h => ?_) (fun h => ?_))|refine zg ?_|refine zi ?_|refine zb ?_|refine zl ?_)
     all_goals conv=>whnf
     all_goals first|rfl|contradiction
    ·rw [if_neg (by omega),h1] at Ht
     rw [h] at hX
     clear h h1 hI hp hsrt
     simp only [Md.dc,retS] at Ht
     injection hX with hX1 hX2
     injection hX1 with hX1 hX3 hX4
     subst hX1 hX2 hX3 hX4
     simp only [pts,List.map_nil] at *
     repeat' ((conv=>whnf);first|(with_reducible first|refine br_t ?_|refine br_f ?_|refine za ?_|refine zg ?_|refine zo ?_|refine zm ?_)|refine zsl ?_|refine zsg ?_|refine zss ?_|refine zs1 ?_|refine zse ?_|refine zsn ?_|refine zsc ?_|(with_reducible first|refine zpa ?_|refine zqa ?_)|refine zp ?_|refine zq ?_|(with_reducible first|refine bc (fun h => ?_) (fun h => ?_)|refine zt ?_|refine zf ?_|refine br_i (fun h => ?_) (fun h => ?_))|refine zg ?_|refine zi ?_|refine zb ?_|refine zl ?_)
     all_goals conv=>whnf
     all_goals first|rfl|contradiction
end Go.Proofs.YtfkfficabeclcaaGreatDoor

namespace Go.Proofs.YtfkfficabeclcaaGreatDoor
open Go.RowKit Go.Sort Sx
def kept:Md→List Ak→List Ak
 | _,[]=>[]
 | m,a::l=>if (askV m a).2.e=0 then a::kept (askV m a).1 l else kept (askV m a).1 l
end Go.Proofs.YtfkfficabeclcaaGreatDoor

namespace Go.Proofs.YtfkfficabeclcaaGreatDoor
open Go.RowKit Go.Sort Sx Go.Lib
theorem rin_of {r:Rp} (h:rchk r=0) (h1:r.n≤9223372036854775807 ∧ -9223372036854775808≤r.n∧r.d≤9223372036854775807) (h2:∀ m∈r.ms,m.n≤9223372036854775807 ∧ -9223372036854775808≤m.n∧m.d≤9223372036854775807):rin r:=by
 have hf:∀ n d:Int,chk n d=0→n≤9223372036854775807 ∧ -9223372036854775808≤n∧d≤9223372036854775807→fit2 n d:=fun n d hc hb=>by
  have:=(chk_iff n d).1 hc
  unfold fit2 fitI
  omega
 rcases rchk_cases h with ⟨_,_,h3⟩|⟨_,h4,h3⟩|⟨_,h4,_,_,h3⟩|⟨_,h4,_,_,_,_,h3⟩|h3
 ·rw [h3];exact rin_e _
 ·refine ⟨by rw [h3];exact fit2_0,fun m hm => ?_⟩
  unfold mtR at h4
  simp only [Bool.and_eq_true] at h4
  exact hf _ _ (mOk_i.1 (mRun_ok h4.1 m hm)).1 (h2 m hm)
 ·exact ⟨hf _ _ h4 h1,by rw [h3];intro m hm;cases hm⟩
 ·exact ⟨hf _ _ h4 h1,by rw [h3];intro m hm;cases hm⟩
 ·rw [h3];exact rin_e 0
end Go.Proofs.YtfkfficabeclcaaGreatDoor
