import Derived.Test.YtfkfficabeclcaaGreatDoorGLTStandingsAX
import Derived.Test.YtfkfficabeclcaaGreatDoorGLTStandingsAW
import Derived.Test.YtfkfficabeclcaaGreatDoorGLTStandingsAU
import Derived.Lib.ParseIntBTie
import Derived.Lib.AtoiErrMem
set_option linter.all false
namespace Go.Proofs.YtfkfficabeclcaaGreatDoor
open Go.RowKit Go.Sort Sx Go.Lib
theorem itoa_21 {n:Int} (h1 : -1000000000000000≤n) (h2:n≤1000000000000000):(itoa n).length≤21:=itoa_le ⟨by omega,by omega⟩
theorem rowB_len {n d:Int} {k:Nat} {p:Pt} (hp:p.chk=0) (ht:askd n d=0) (hk:k<64):(rowB n d k p).length≤109:=by
 have c:=Pt.chk_ok hp
 obtain ⟨_,x1,_,x3,x4,x5,x6⟩:=plc_ok hp ht
 have h1:=itoa_21 (n:=((k+1:Nat):Int)) (by omega) (by omega)
 have h2:=itoa_21 (n:=p.id) (by omega) (by omega)
 have h3:=itoa_21 (n:=p.b) (by omega) (by omega)
 have h4:=numV_len (n:=(plc p n d).1) (d:=(plc p n d).2) ⟨by omega,by omega⟩ ⟨by omega,by omega⟩
 unfold rowB
 simp only [joinS,List.length_append,List.length_cons]
 omega
theorem rowsK_bytes {n d:Int} {L:List Pt} (hL:∀ p∈L,p.chk=0) (ht:askd n d=0) (hl:L.length≤64):∀ k,k≤L.length→(nlS (rowsK n d L k)).length≤110*k
 | 0,_=>Nat.le_refl _
 | k+1,h=>by
  have ih:=rowsK_bytes hL ht hl k (by omega)
  have h1:=rowB_len (k:=k) (hL _ (List.getElem_mem (show k<L.length by omega))) ht (by omega)
  rw [rowsK_succ (by omega),nlS_app,List.length_append]
  have:(nlS [rowB n d k L[k]]).length=(rowB n d k L[k]).length+1:=by simp [nlS]
  omega
theorem headB_len {m:Md} (ht:askd m.n m.d=0) (hl:m.l.length≤64):(headB m).length≤77:=by
 have c:=askd_ok ht
 have h1:=numV_len (n:=m.n) (d:=m.d) ⟨by omega,by omega⟩ ⟨by omega,by omega⟩
 have h2:=itoa_21 (n:=(m.l.length:Int)) (by omega) (by omega)
 unfold headB
 simp only [joinS,List.length_append,List.length_cons,wTime,wPts,List.length_nil]
 omega
theorem clsB_len {m:Md} (hm:mchk m=0):(clsB m).length≤95:=by
 obtain ⟨g1,g2⟩:=mchk_ok hm
 obtain ⟨k1,k2,k3⟩:=fchk_ok g2
 unfold clsB
 split
 ·simp [wClst0]
 ·rename_i h
  obtain ⟨p1,p2,p3,p4,p5,p6,p7⟩:=pairC_ok k2 g1 (show 2≤m.l.length by omega)
  have i1:=Pt.chk_ok (k2 _ (List.getElem_mem p6))
  have i2:=Pt.chk_ok (k2 _ (List.getElem_mem p7))
  have e:closV m.l m.n m.d=(m.l[(pairC m.l m.n m.d).1].id,m.l[(pairC m.l m.n m.d).2.1].id,(pairC m.l m.n m.d).2.2.1,(pairC m.l m.n m.d).2.2.2,0):=by
   unfold closV
   rw [if_pos g2,if_pos g1,if_neg h,List.getElem?_eq_getElem p6,List.getElem?_eq_getElem p7]
   rfl
  rw [e]
  have h1:=itoa_21 (n:=m.l[(pairC m.l m.n m.d).1].id) (by omega) (by omega)
  have h2:=itoa_21 (n:=m.l[(pairC m.l m.n m.d).2.1].id) (by omega) (by omega)
  have h4:=numV_len (n:=(pairC m.l m.n m.d).2.2.1) (d:=(pairC m.l m.n m.d).2.2.2) ⟨by omega,by omega⟩ ⟨by omega,by omega⟩
  simp only [joinS,List.length_append,List.length_cons,wClst,List.length_nil]
  omega
theorem nxt_in {m:Md} (hm:mchk m=0) (h:(nxtV m.l m.n m.d).2=0):(nxtV m.l m.n m.d).1.ok∧0≤(nxtV m.l m.n m.d).1.i∧(nxtV m.l m.n m.d).1.i<(nxtV m.l m.n m.d).1.j∧(nxtV m.l m.n m.d).1.j≤65535:=by
 obtain ⟨g1,g2⟩:=mchk_ok hm
 obtain ⟨k1,k2,k3⟩:=fchk_ok g2
 unfold nxtV at h ⊢
 split at h
 ·rename_i hlt
  rw [dif_pos hlt]
  have hmem:=msrt_mem.1 (List.getElem_mem hlt)
  refine ⟨(outs_ok g2 _ hmem).1,?_⟩
  obtain ⟨⟨p,q⟩,h1,h2⟩:=List.mem_filterMap.1 hmem
  obtain ⟨hp,hq⟩:=pairs_mem h1
  have hlt:=pairs_lt k3 h1
  have cp:=cpt_ok (k2 p hp)
  have cq:=cpt_ok (k2 q hq)
  unfold meet1 at h2
  dsimp only at h2
  split at h2
  ·injection h2 with h2
   rw [← h2]
   exact ⟨by show 0≤p.id;omega,hlt,by show q.id≤_;omega⟩
  ·cases h2
 ·cases h
theorem nxtB_len {m:Md} (hm:mchk m=0):(nxtB m).length≤92:=by
 unfold nxtB
 split
 ·rename_i h
  obtain ⟨⟨o1,o2,o3,_⟩,n1,n2,n3⟩:=nxt_in hm h
  have c:=(chk_iff _ _).1 o1
  have h1:=itoa_21 (n:=(nxtV m.l m.n m.d).1.i) (by omega) (by omega)
  have h2:=itoa_21 (n:=(nxtV m.l m.n m.d).1.j) (by omega) (by omega)
  have h4:=numV_len (n:=(nxtV m.l m.n m.d).1.n) (d:=(nxtV m.l m.n m.d).1.d) o2 ⟨by omega,by omega⟩
  simp only [mWords,joinS,List.length_append,List.length_cons,wNext,List.length_nil]
  omega
 ·simp [wNext0]
theorem nlS_cons (a:Str) (l:List Str):nlS (a::l)=a++10::nlS l:=by unfold nlS;rw [List.flatMap_cons,List.append_assoc];rfl
theorem stT_parts (m:Md):stT m=headB m++10::(nlS (rowsK m.n m.d (srt m.n m.d m.l) m.l.length)++(clsB m++10::(nxtB m++[10]))):=by
 unfold stT linesV
 rw [List.cons_append,nlS_cons,nlS_app,nlS_cons,nlS_cons]
 rfl
theorem stT_len {m:Md} (hm:mchk m=0):(stT m).length≤8000:=by
 obtain ⟨g1,g2⟩:=mchk_ok hm
 obtain ⟨k1,k2,k3⟩:=fchk_ok g2
 have h1:=headB_len g1 k1
 have h2:=rowsK_bytes (L:=srt m.n m.d m.l) (fun p hp=>k2 p ((srt_perm m.n m.d m.l).mem_iff.1 hp)) g1 (by rw [srt_len];exact k1) m.l.length (by rw [srt_len];exact Nat.le_refl _)
 have h3:=clsB_len hm
 have h4:=nxtB_len hm
 rw [stT_parts]
 simp only [List.length_append,List.length_cons,List.length_nil]
 omega
end Go.Proofs.YtfkfficabeclcaaGreatDoor

namespace Go.Proofs.YtfkfficabeclcaaGreatDoor
open Go Go.RowKit Go.Sort Sx
open Go.Lib hiding intOf
set_option maxRecDepth 2000
def pfx (m:Md) (k:Nat):Str:=headB m++10::nlS (rowsK m.n m.d (srt m.n m.d m.l) k)
theorem pfx_0 (m:Md):pfx m 0=(((([116,105,109,101,32]++(numV m.n m.d).1)++[32,112,111,105,110,116,115,32])++itoa (m.l.length:Int))++[10]):=by
 unfold pfx headB
 show ((wTime++32::(numV m.n m.d).1)++(wPts++32::itoa _))++[10]=_
 simp [wTime,wPts]
theorem pfx_succ {m:Md} {k:Nat} (h:k<(srt m.n m.d m.l).length):pfx m (k+1)=pfx m k++(((((((itoa ((k+1:Nat):Int)++[32])++itoa (srt m.n m.d m.l)[k].id)++[32])++(numV (plc (srt m.n m.d m.l)[k] m.n m.d).1 (plc (srt m.n m.d m.l)[k] m.n m.d).2).1)++[32])++itoa (srt m.n m.d m.l)[k].b)++[10]):=by
 unfold pfx
 rw [rowsK_succ h,nlS_app]
 have:nlS [rowB m.n m.d k (srt m.n m.d m.l)[k]]=((((((itoa ((k+1:Nat):Int)++[32])++itoa (srt m.n m.d m.l)[k].id)++[32])++(numV (plc (srt m.n m.d m.l)[k] m.n m.d).1 (plc (srt m.n m.d m.l)[k] m.n m.d).2).1)++[32])++itoa (srt m.n m.d m.l)[k].b)++[10]:=by
  unfold nlS rowB
  simp [joinS]
 rw [this]
 simp
theorem stT_pfx (m:Md):stT m=pfx m m.l.length++(clsB m++10::(nxtB m++[10])):=by
 rw [stT_parts]
 unfold pfx
 simp
theorem pfx_len {m:Md} (hm:mchk m=0) {k:Nat} (hk:k≤m.l.length):(pfx m k).length≤8000:=by
 obtain ⟨g1,g2⟩:=mchk_ok hm
 obtain ⟨k1,k2,k3⟩:=fchk_ok g2
 have h1:=headB_len g1 k1
 have h2:=rowsK_bytes (L:=srt m.n m.d m.l) (fun p hp=>k2 p ((srt_perm m.n m.d m.l).mem_iff.1 hp)) g1 (by rw [srt_len];exact k1) k (by rw [srt_len];exact hk)
 unfold pfx
 simp only [List.length_append,List.length_cons]
 omega
theorem cls_ref {m:Md} (h:¬ m.l.length<2):clsB m++[10]=(((((([99,108,111,115,101,115,116,32]++itoa (closV m.l m.n m.d).1)++[32])++itoa (closV m.l m.n m.d).2.1)++[32])++(numV (closV m.l m.n m.d).2.2.1 (closV m.l m.n m.d).2.2.2.1).1)++[10]):=by
 unfold clsB
 rw [if_neg h]
 simp [joinS,wClst]
theorem nxt_ref {m:Md} (h:(nxtV m.l m.n m.d).2=0):nxtB m++[10]=[110,101,120,116,32]++mText (nxtV m.l m.n m.d).1++[10]:=by
 unfold nxtB mText
 rw [if_pos h,joinS_cons _ (by unfold mWords;simp)]
 simp [wNext]
set_option maxRecDepth 100000 in
set_option maxHeartbeats 8000000 in
theorem rtstanding_fn (m:Md) (hm:mchk m=0):FnOK Tryz.prog 59 [m.dc] (.c (.one (str (stT m)))):=by
 obtain ⟨g1,g2⟩:=mchk_ok hm
 obtain ⟨k1,k2,k3⟩:=fchk_ok g2
 have a5:=askd_ok g1
 have HN0:=rtnumber_fn m.n m.d
 have ln0:=numV_len (n:=m.n) (d:=m.d) ⟨by omega,by omega⟩ ⟨by omega,by omega⟩
 have li0:=itoa_21 (n:=(m.l.length:Int)) (by omega) (by omega)
 have HO:=rfOrdered_fn (n:=m.n) (m:=m.d) k2 k3 (by omega)
 have HX:=rmNext_fn (n:=m.n) (e:=m.d) g2 a5.1
 have hll:(m.l.map Pt.c).length=m.l.length:=List.length_map ..
 have HW0:FnOK Tryz.prog 107 [.one (i64 ((m.l.map Pt.c).length:Int))] (.c (.one (str (itoa (m.l.length:Int))))):=by rw [hll];exact rtwhole_fn (n:=(m.l.length:Int)) ⟨by omega,by omega⟩
 have hsl:(srt m.n m.d m.l).length=m.l.length:=srt_len ..
 have hil:((ordV m.l m.n m.d).map fun i=>[i64 i]).length=m.l.length:=by unfold ordV;rw [List.length_map,List.length_map,hsl]
 have hol:(ordV m.l m.n m.d).length=m.l.length:=by unfold ordV;rw [List.length_map,hsl]
 have hp0:=pfx_0 m
 have hpl:=fun k (hk:k≤m.l.length)=>pfx_len hm hk
 have TC:∃ C:Str,C.length≤96∧clsB m++[10]=C:=⟨_,by have:=clsB_len hm;rw [List.length_append];simp;omega,rfl⟩
 have JP:¬ m.l.length<2→FnOK Tryz.prog 111 [fld m.l,rat m.n m.d] (.tup [.one (i64 (closV m.l m.n m.d).1),.one (i64 (closV m.l m.n m.d).2.1),rat (closV m.l m.n m.d).2.2.1 (closV m.l m.n m.d).2.2.2.1]):=fun h=>by
  have H:=roPair_fn k2 g1 (show 2≤m.l.length by omega) (by omega)
  have e:closV m.l m.n m.d=((m.l[(pairC m.l m.n m.d).1]?.getD default).id,(m.l[(pairC m.l m.n m.d).2.1]?.getD default).id,(pairC m.l m.n m.d).2.2.1,(pairC m.l m.n m.d).2.2.2,0):=by
   unfold closV
   rw [if_pos g2,if_pos g1,if_neg h]
  rw [e]
  exact H
 have JW:¬ m.l.length<2→(FnOK Tryz.prog 107 [.one (i64 (closV m.l m.n m.d).1)] (.c (.one (str (itoa (closV m.l m.n m.d).1))))∧(itoa (closV m.l m.n m.d).1).length≤21)∧(FnOK Tryz.prog 107 [.one (i64 (closV m.l m.n m.d).2.1)] (.c (.one (str (itoa (closV m.l m.n m.d).2.1))))∧(itoa (closV m.l m.n m.d).2.1).length≤21)∧FnOK Tryz.prog 106 [.agg [i64 (closV m.l m.n m.d).2.2.1,i64 (closV m.l m.n m.d).2.2.2.1]] (.c (.one (str (numV (closV m.l m.n m.d).2.2.1 (closV m.l m.n m.d).2.2.2.1).1)))∧(numV (closV m.l m.n m.d).2.2.1 (closV m.l m.n m.d).2.2.2.1).1.length≤43:=fun h=>by
  obtain ⟨p1,p2,p3,p4,p5,p6,p7⟩:=pairC_ok k2 g1 (show 2≤m.l.length by omega)
  have i1:=Pt.chk_ok (k2 _ (List.getElem_mem p6))
  have i2:=Pt.chk_ok (k2 _ (List.getElem_mem p7))
  have e:closV m.l m.n m.d=(m.l[(pairC m.l m.n m.d).1].id,m.l[(pairC m.l m.n m.d).2.1].id,(pairC m.l m.n m.d).2.2.1,(pairC m.l m.n m.d).2.2.2,0):=by
   unfold closV
   rw [if_pos g2,if_pos g1,if_neg h,List.getElem?_eq_getElem p6,List.getElem?_eq_getElem p7]
   rfl
  rw [e]
  exact ⟨⟨rtwhole_fn ⟨by show _≤m.l[(pairC m.l m.n m.d).1].id;omega,by show m.l[(pairC m.l m.n m.d).1].id≤_;omega⟩,itoa_21 (by show _≤m.l[(pairC m.l m.n m.d).1].id;omega) (by show m.l[(pairC m.l m.n m.d).1].id≤_;omega)⟩,⟨rtwhole_fn ⟨by show _≤m.l[(pairC m.l m.n m.d).2.1].id;omega,by show m.l[(pairC m.l m.n m.d).2.1].id≤_;omega⟩,itoa_21 (by show _≤m.l[(pairC m.l m.n m.d).2.1].id;omega) (by show m.l[(pairC m.l m.n m.d).2.1].id≤_;omega)⟩,rtnumber_fn _ _,numV_len ⟨by show _≤(pairC m.l m.n m.d).2.2.1;omega,by show (pairC m.l m.n m.d).2.2.1≤_;omega⟩ ⟨by show _≤(pairC m.l m.n m.d).2.2.2;omega,by show (pairC m.l m.n m.d).2.2.2≤_;omega⟩⟩
 have JT:(nxtV m.l m.n m.d).2=0→FnOK Tryz.prog 113 [(nxtV m.l m.n m.d).1.dc] (.c (.one (str (mText (nxtV m.l m.n m.d).1))))∧(mText (nxtV m.l m.n m.d).1).length≤87:=fun h=>by
  obtain ⟨⟨o1,o2,o3,_⟩,n1,n2,n3⟩:=nxt_in hm h
  have c:=(chk_iff _ _).1 o1
  exact ⟨rtthree_fn o2 ⟨by omega,o3⟩ n1 n2 n3,mText_len o2 ⟨by omega,o3⟩ n1 n2 n3⟩
 have CF:m.l.length<2→clsB m=[99,108,111,115,101,115,116,32,110,111,110,101]:=fun h=>by unfold clsB;rw [if_pos h];rfl
 have CM:=@cls_ref m
 have NT:=@nxt_ref m
 have NF:(nxtV m.l m.n m.d).2≠0→nxtB m=[110,101,120,116,32,110,111,110,101]:=fun h=>by unfold nxtB;rw [if_neg h];rfl
 have hst:stT m=(pfx m m.l.length++(clsB m++[10]))++(nxtB m++[10]):=by rw [stT_pfx];simp
 rw [hst]
 clear hst TC
 generalize clsB m=cB at *
 generalize nxtB m=nB at *
 generalize closV m.l m.n m.d=cV at *
 generalize nxtV m.l m.n m.d=nV at *
 generalize (numV m.n m.d).1=N0 at *
 generalize itoa (m.l.length:Int)=W0 at *
 obtain ⟨c1,c2,c3,c4,c5⟩:=cV
 obtain ⟨nm,n5⟩:=nV
 simp only at JP JW JT CM NT NF
 simp only [retNx] at HX
 refine fn_ok (by kernel_rfl) ty_ok Tryz.func59 rfl (fun _ _=>Tryz.call59 _ _) rfl ?_
 intro hw
 clear hw
 repeat' ((conv=>whnf);first|(with_reducible first|refine br_t ?_|refine br_f ?_|refine za ?_|refine zg ?_)|refine zsl ?_|refine zsg ?_|refine zss ?_|refine zs1 ?_|refine zse ?_|refine zsn ?_|refine zsc ?_|(with_reducible first|refine zpa ?_|refine zqa ?_)|refine zp ?_|refine zq ?_|(with_reducible first|refine bc (fun h => ?_) (fun h => ?_)|refine zt ?_|refine zf ?_|refine br_i (fun h => ?_) (fun h => ?_))|refine zg ?_|refine zi ?_|refine zb ?_)
 all_goals conv=>whnf
 refine loop_J (by kernel_rfl) ty_ok (σ:=Nat) (fun i=>[(6,sV (.int .i64 (i:Nat))),(4,sD (str (pfx m i)))]) (fun _=>[]) (fun i=>i≤m.l.length) (fun i=>m.l.length-i) 0 (Nat.zero_le _) ?_ ?_
 ·rw [hp0]
  (conv=>whnf);exact zent
 intro i hi
 have hli:=hpl i hi
 rcases Nat.lt_or_ge i m.l.length with hlt|hge
 ·have his:i<(srt m.n m.d m.l).length:=by omega
  have hel:((ordV m.l m.n m.d).map fun i=>[i64 i])[((i:Nat):Int).toNat]? = some [i64 (srt m.n m.d m.l)[i].id]:=by
   unfold ordV
   rw [Int.toNat_natCast,List.getElem?_map,List.getElem?_map,List.getElem?_eq_getElem his];rfl
  have hpm:(srt m.n m.d m.l)[i]∈m.l:=(srt_perm m.n m.d m.l).mem_iff.1 (List.getElem_mem his)
  have hpc:=k2 _ hpm
  have hs:=pfx_succ his
  have HA:=rfAt_fn m.l (srt m.n m.d m.l)[i].id
  obtain ⟨q1,q2,q3⟩:=at1_of g2 hpm
  rw [q2] at HA
  have hel2:(m.l.map Pt.c)[((pos m.l (srt m.n m.d m.l)[i].id:Nat):Int).toNat]? = some [i64 (srt m.n m.d m.l)[i].id,i64 (srt m.n m.d m.l)[i].a,i64 (srt m.n m.d m.l)[i].b]:=by
   rw [pts_get q1]
   have q3':m.l[pos m.l (srt m.n m.d m.l)[i].id]=(srt m.n m.d m.l)[i]:=q3
   rw [q3']
  have hpk:=Pt.chk_ok hpc
  obtain ⟨_,x1,_,x3,x4,x5,x6⟩:=plc_ok hpc g1
  have HP:=roPlace_fn hpc g1
  generalize (srt m.n m.d m.l)[i]=p at *
  have HN:=rtnumber_fn (plc p m.n m.d).1 (plc p m.n m.d).2
  have ln:=numV_len (n:=(plc p m.n m.d).1) (d:=(plc p m.n m.d).2) ⟨by omega,by omega⟩ ⟨by omega,by omega⟩
  have HW1:=rtwhole_fn (n:=((i+1:Nat):Int)) ⟨by omega,by omega⟩
  have HW2:=rtwhole_fn (n:=p.id) ⟨by omega,by omega⟩
  have HD:=rcDecimal_fn p.b ⟨by omega,by omega⟩
  have l1:=itoa_21 (n:=((i+1:Nat):Int)) (by omega) (by omega)
  have l2:=itoa_21 (n:=p.id) (by omega) (by omega)
  have l3:=itoa_21 (n:=p.b) (by omega) (by omega)
  have ew:IntKind.i64.wrap ((i:Int)+1)=((i+1:Nat):Int):=by rw [IntWalk.i64_in _ (by omega)];omega
  clear JP JW JT CF CM NT NF HX HO hp0 hpl x1 x3 x4 x5 x6 hpm hpc q2 q3
  generalize (numV (plc p m.n m.d).1 (plc p m.n m.d).2).1=S at *
  generalize plc p m.n m.d=q at *
  generalize pos m.l p.id=j at *
  obtain ⟨q1,q2⟩:=q
  obtain ⟨p1,p2,p3⟩:=p
  simp only [Pt.dc] at *
  rw [← ew] at HW1
  have hpi:pfx m (i+1)=pfx m i++(((((((itoa (IntKind.i64.wrap ((i:Int)+1))++[32])++itoa p1)++[32])++S)++[32])++itoa p3)++[10]):=by rw [ew];exact hs
  rw [← ew] at l1
  clear hs
  generalize pfx m i=F at *
  generalize itoa p1=s2 at *
  generalize itoa p3=s3 at *
  generalize itoa (IntKind.i64.wrap ((i:Int)+1))=s1 at *
  repeat' ((conv=>whnf);first|(with_reducible first|refine br_t ?_|refine br_f ?_|refine za ?_|refine zg ?_)|rw [List.length_map]|refine zsl ?_|refine zsg ?_|refine zss ?_|refine zs1 ?_|refine zse ?_|refine zsn ?_|refine zsc ?_|(with_reducible first|refine zpa ?_|refine zqa ?_)|refine zp ?_|refine zq ?_|(with_reducible first|refine bc (fun h => ?_) (fun h => ?_)|refine zt ?_|refine zf ?_|refine br_i (fun h => ?_) (fun h => ?_))|refine zg ?_|refine zi ?_|refine zb ?_)
  all_goals conv=>whnf
  refine ⟨i+1,by omega,?_,by omega⟩
  rw [hpi,← ew]
  (conv=>whnf);exact zent
 ·obtain rfl:i=m.l.length:=by omega
  clear hpl hp0
  generalize pfx m m.l.length=F at *
  by_cases h2:m.l.length<2
  ·obtain rfl:=CF h2
   clear CM JW JP
   by_cases hn:n5=0
   ·subst hn
    obtain ⟨J1,J2⟩:=JT rfl
    rw [NT rfl]
    obtain ⟨nm1,nm2,nm3,nm4⟩:=nm
    generalize mText ⟨nm1,nm2,nm3,nm4⟩=T at *
    simp only [Mt.dc] at *
    repeat' ((conv=>whnf);first|(with_reducible first|refine br_t ?_|refine br_f ?_|refine za ?_|refine zg ?_)|rw [List.length_map]|refine zsl ?_|refine zsg ?_|refine zss ?_|refine zs1 ?_|refine zse ?_|refine zsn ?_|refine zsc ?_|(with_reducible first|refine zpa ?_|refine zqa ?_)|refine zp ?_|refine zq ?_|(with_reducible first|refine bc (fun h => ?_) (fun h => ?_)|refine zt ?_|refine zf ?_|refine br_i (fun h => ?_) (fun h => ?_))|refine zg ?_|refine zi ?_|refine zb ?_)
    all_goals conv=>whnf
    all_goals first|rfl|(simp;done)
   ·obtain rfl:=NF hn
    obtain ⟨nm1,nm2,nm3,nm4⟩:=nm
    simp only [Mt.dc] at *
    repeat' ((conv=>whnf);first|(with_reducible first|refine br_t ?_|refine br_f ?_|refine za ?_|refine zg ?_)|rw [List.length_map]|refine zsl ?_|refine zsg ?_|refine zss ?_|refine zs1 ?_|refine zse ?_|refine zsn ?_|refine zsc ?_|(with_reducible first|refine zpa ?_|refine zqa ?_)|refine zp ?_|refine zq ?_|(with_reducible first|refine bc (fun h => ?_) (fun h => ?_)|refine zt ?_|refine zf ?_|refine br_i (fun h => ?_) (fun h => ?_))|refine zg ?_|refine zi ?_|refine zb ?_)
    all_goals conv=>whnf
    all_goals first|rfl|(simp;done)
  ·obtain ⟨⟨w1,w2⟩,⟨w3,w4⟩,w5,w6⟩:=JW h2
   have JP:=JP h2
   have CM:=CM h2
   rw [CM]
   clear CM CF JW
   generalize (numV c3 c4).1=S at *
   generalize itoa c1=s1 at *
   generalize itoa c2=s2 at *
   by_cases hn:n5=0
   ·subst hn
    obtain ⟨J1,J2⟩:=JT rfl
    rw [NT rfl]
    obtain ⟨nm1,nm2,nm3,nm4⟩:=nm
    generalize mText ⟨nm1,nm2,nm3,nm4⟩=T at *
    simp only [Mt.dc] at *
    repeat' ((conv=>whnf);first|(with_reducible first|refine br_t ?_|refine br_f ?_|refine za ?_|refine zg ?_)|rw [List.length_map]|refine zsl ?_|refine zsg ?_|refine zss ?_|refine zs1 ?_|refine zse ?_|refine zsn ?_|refine zsc ?_|(with_reducible first|refine zpa ?_|refine zqa ?_)|refine zp ?_|refine zq ?_|(with_reducible first|refine bc (fun h => ?_) (fun h => ?_)|refine zt ?_|refine zf ?_|refine br_i (fun h => ?_) (fun h => ?_))|refine zg ?_|refine zi ?_|refine zb ?_)
    all_goals conv=>whnf
    all_goals first|rfl|(simp;done)
   ·obtain rfl:=NF hn
    obtain ⟨nm1,nm2,nm3,nm4⟩:=nm
    simp only [Mt.dc] at *
    repeat' ((conv=>whnf);first|(with_reducible first|refine br_t ?_|refine br_f ?_|refine za ?_|refine zg ?_)|rw [List.length_map]|refine zsl ?_|refine zsg ?_|refine zss ?_|refine zs1 ?_|refine zse ?_|refine zsn ?_|refine zsc ?_|(with_reducible first|refine zpa ?_|refine zqa ?_)|refine zp ?_|refine zq ?_|(with_reducible first|refine bc (fun h => ?_) (fun h => ?_)|refine zt ?_|refine zf ?_|refine br_i (fun h => ?_) (fun h => ?_))|refine zg ?_|refine zi ?_|refine zb ?_)
    all_goals conv=>whnf
    all_goals first|rfl|(simp;done)
theorem rtStanding_fn (m:Md):FnOK Tryz.prog 28 [m.dc] (retS (standV m)):=by
 have HC:=roCheck_fn m
 unfold standV
 by_cases h:mchk m=0
 ·rw [if_pos h]
  have HL:=rtstanding_fn m h
  rw [h] at HC
  clear h
  generalize stT m=S at *
  obtain ⟨n,d,l⟩:=m
  simp only [retS,Md.dc] at *
  refine fn_ok (by kernel_rfl) ty_ok Tryz.func28 rfl (fun _ _=>Tryz.call28 _ _) rfl ?_
  intro hw
  clear hw
  repeat' ((conv=>whnf);first|(with_reducible first|refine br_t ?_|refine br_f ?_|refine za ?_|refine zg ?_)|refine zsl ?_|refine zsg ?_|refine zss ?_|refine zs1 ?_|refine zse ?_|refine zsn ?_|refine zsc ?_|(with_reducible first|refine zpa ?_|refine zqa ?_)|refine zp ?_|refine zq ?_|(with_reducible first|refine bc (fun h => ?_) (fun h => ?_)|refine zt ?_|refine zf ?_|refine br_i (fun h => ?_) (fun h => ?_))|refine zg ?_|refine zi ?_|refine zb ?_)
  all_goals conv=>whnf
  all_goals rfl
 ·rw [if_neg h]
  generalize mchk m=z at *
  obtain ⟨n,d,l⟩:=m
  simp only [retS,Md.dc] at *
  refine fn_ok (by kernel_rfl) ty_ok Tryz.func28 rfl (fun _ _=>Tryz.call28 _ _) rfl ?_
  intro hw
  clear hw
  repeat' ((conv=>whnf);first|(with_reducible first|refine br_t ?_|refine br_f ?_|refine za ?_|refine zg ?_)|refine zsl ?_|refine zsg ?_|refine zss ?_|refine zs1 ?_|refine zse ?_|refine zsn ?_|refine zsc ?_|(with_reducible first|refine zpa ?_|refine zqa ?_)|refine zp ?_|refine zq ?_|(with_reducible first|refine bc (fun h => ?_) (fun h => ?_)|refine zt ?_|refine zf ?_|refine br_i (fun h => ?_) (fun h => ?_))|refine zg ?_|refine zi ?_|refine zb ?_)
  all_goals conv=>whnf
  all_goals rfl
end Go.Proofs.YtfkfficabeclcaaGreatDoor

namespace Go.Proofs.YtfkfficabeclcaaGreatDoor
open Go Go.RowKit Go.Sort Sx
open Go.Lib hiding intOf
set_option maxRecDepth 2000
abbrev retMe (x:Md × Int):DV:=.tup [x.1.dc,.one (i64 x.2)]
theorem rdRws_app (f:List Str→Option Pt):∀ (a b:List Str),rdRws f (a++b)=match rdRws f a with
  | none=>none
  | some r=>(rdRws f b).map fun q=>r++q
 | [],b=>by simp [rdRws]
 | x::a,b=>by
  rw [List.cons_append,rdRws,rdRws]
  cases h:f (spl 32 x) with
  | none=>rfl
  | some p =>
   dsimp only
   rw [rdRws_app f a b]
   cases h2:rdRws f a with
   | none=>rfl
   | some r =>
    dsimp only [Option.map_some]
    cases rdRws f b<;>rfl
theorem rdRws_one (f:List Str→Option Pt) (x:Str):rdRws f [x]=(f (spl 32 x)).map fun p=>[p]:=by
 rw [rdRws]
 cases f (spl 32 x)<;>rfl
theorem rdRws_step {f:List Str→Option Pt} {L:List Str} {i:Nat} {A:List Pt} (h1:1≤i) (hi:i<L.length) (h:rdRws f ((L.take i).drop 1)=some A):rdRws f ((L.take (i+1)).drop 1)=(f (spl 32 L[i])).map fun p=>A++[p]:=by
 have e:(L.take (i+1)).drop 1=(L.take i).drop 1++[L[i]]:=by
  rw [List.take_succ_eq_append_getElem hi,List.drop_append_of_le_length (by rw [List.length_take];omega)]
 rw [e,rdRws_app,h]
 dsimp only
 rw [rdRws_one]
 cases f (spl 32 L[i])<;>rfl
theorem rdRws_stop {f:List Str→Option Pt} {L:List Str} {i n:Nat} (h1:1≤i) (hi:i<n) (hn:n≤L.length) (h:rdRws f ((L.take (i+1)).drop 1)=none):rdRws f ((L.take n).drop 1)=none:=by
 have key:∀ M:List Str,1≤(M.take (i+1)).length→M.drop 1=(M.take (i+1)).drop 1++M.drop (i+1):=fun M h=>by
  conv=>lhs;rw [← List.take_append_drop (i+1) M]
  rw [List.drop_append_of_le_length h]
 have e2:(L.take n).take (i+1)=L.take (i+1):=by rw [List.take_take,Nat.min_eq_left (by omega)]
 have e:=key (L.take n) (by rw [e2,List.length_take];omega)
 rw [e2] at e
 rw [e,rdRws_app,h]
theorem rdRws_len (f:List Str→Option Pt):∀ {l:List Str} {A:List Pt},rdRws f l=some A→A.length=l.length
 | [],A,h=>by rw [rdRws] at h;injection h with h;subst h;rfl
 | x::l,A,h=>by
  rw [rdRws] at h
  cases h1:f (spl 32 x) with
  | none=>rw [h1] at h;cases h
  | some p =>
   rw [h1] at h
   dsimp only at h
   cases h2:rdRws f l with
   | none=>rw [h2] at h;cases h
   | some r =>
    rw [h2] at h
    injection h with h
    subst h
    rw [List.length_cons,List.length_cons,rdRws_len f h2]
theorem smd_cases {s:Str} {n d:Int} {l l':List Pt} (hp:l'.Perm l) (hs:l'.Pairwise fun a b=>a.id≤b.id):(mchk ⟨n,d,l'⟩=0∧stT ⟨n,d,l'⟩=s∧backS s (some (n,d,l))=(⟨n,d,l'⟩,0))∨(mchk ⟨n,d,l'⟩=0∧stT ⟨n,d,l'⟩≠s∧backS s (some (n,d,l))=(⟨0,0,[]⟩,12))∨(mchk ⟨n,d,l'⟩=8∧backS s (some (n,d,l))=(⟨0,0,[]⟩,12)):=by
 rw [backS_any hp hs]
 rcases mchk_08 ⟨n,d,l'⟩ with h|h
 ·by_cases e:stT ⟨n,d,l'⟩=s
  ·exact .inl ⟨h,e,by rw [if_pos ⟨h,e⟩]⟩
  ·exact .inr (.inl ⟨h,e,by rw [if_neg fun k=>e k.2]⟩)
 ·exact .inr (.inr ⟨h,by rw [if_neg fun k=>by omega]⟩)
set_option maxRecDepth 100000 in
set_option maxHeartbeats 8000000 in
theorem rtReadStanding_fn (s:Str) (hs:s.length≤100000∨110000<s.length) (hs1:s.length≤1000000):FnOK Tryz.prog 29 [.one (str s)] (retMe (sreadR s)):=by
 unfold sreadR
 by_cases hb:110000<s.length
 ·rw [if_pos hb]
  simp only [retMe,Md.dc,pts,List.map_nil]
  refine fn_ok (by kernel_rfl) (ty_okK [8,80] [] [] []) Tryz.func29 rfl (fun _ _=>Tryz.call29 _ _) rfl ?_
  intro hw
  clear hw
  repeat' ((conv=>whnf);first|(with_reducible first|refine br_t ?_|refine br_f ?_|refine za ?_|refine zg ?_|refine zo ?_)|refine zsl ?_|refine zsg ?_|refine zss ?_|refine zs1 ?_|refine zse ?_|refine zsn ?_|refine zsc ?_|(with_reducible first|refine zpa ?_|refine zqa ?_)|refine zp ?_|refine zq ?_|(with_reducible first|refine bc (fun h => ?_) (fun h => ?_)|refine zt ?_|refine zf ?_|refine br_i (fun h => ?_) (fun h => ?_))|refine zg ?_|refine zi ?_|refine zb ?_|refine zl ?_)
  all_goals conv=>whnf
  all_goals rfl
 rw [if_neg hb]
 have hs:s.length≤100000:=by omega
 have Hs:FnOK Tryz.prog 32 [.one (str s),.one (.v (.int .u8 10))] (.c (.one (strs (spl 10 s)))):=rcCut_fn s 10 hs
 have hl1:=spl_len 10 s
 have hl2:=spl_each 10 s
 unfold srdR srdG
 obtain ⟨w0,t,hL⟩:∃ w0 t,spl 10 s=w0::t:=by
  cases h:spl 10 s with
  | nil=>exact absurd h (spl_ne 10 s)
  | cons a b=>exact ⟨a,b,rfl⟩
 have hhd:(spl 10 s).headD []=w0:=by rw [hL];rfl
 have g0:((spl 10 s).map fun s=>[str s])[(0:Int).toNat]? = some [str w0]:=by rw [hL];rfl
 have h0:=hl2 w0 (by rw [hL];exact List.mem_cons_self ..)
 have hL0:0<(spl 10 s).length:=by rw [hL];simp
 rw [hhd]
 clear hL hhd
 generalize spl 10 s=L at *
 have Hs2:FnOK Tryz.prog 32 [.one (str w0),.one (.v (.int .u8 32))] (.c (.one (strs (spl 32 w0)))):=rcCut_fn w0 32 (by omega)
 have hf2:=spl_each 32 w0
 have hfl:=spl_len 32 w0
 generalize spl 32 w0=F at *
 have hLl:(L.map fun s=>[str s]).length=L.length:=List.length_map ..
 have hFl:(F.map fun s=>[str s]).length=F.length:=List.length_map ..
 by_cases hA:L.length<4∨68<L.length∨F.length≠4
 ·rw [if_pos hA]
  show FnOK _ _ _ (retMe (⟨0,0,[]⟩,12))
  simp only [retMe,Md.dc,pts,List.map_nil]
  rcases Nat.lt_or_ge L.length 4 with h4|h4
  ·refine fn_ok (by kernel_rfl) (ty_okK [8,80] [] [] []) Tryz.func29 rfl (fun _ _=>Tryz.call29 _ _) rfl ?_
   intro hw
   clear hw
   repeat' ((conv=>whnf);first|(with_reducible first|refine br_t ?_|refine br_f ?_|refine za ?_|refine zg ?_|refine zo ?_)|refine zsl ?_|refine zsg ?_|refine zss ?_|refine zs1 ?_|refine zse ?_|refine zsn ?_|refine zsc ?_|(with_reducible first|refine zpa ?_|refine zqa ?_)|refine zp ?_|refine zq ?_|(with_reducible first|refine bc (fun h => ?_) (fun h => ?_)|refine zt ?_|refine zf ?_|refine br_i (fun h => ?_) (fun h => ?_))|refine zg ?_|refine zi ?_|refine zb ?_|refine zl ?_)
   all_goals conv=>whnf
   all_goals rfl
  ·rcases Nat.lt_or_ge 68 L.length with h5|h5
   ·refine fn_ok (by kernel_rfl) (ty_okK [8,80] [] [] []) Tryz.func29 rfl (fun _ _=>Tryz.call29 _ _) rfl ?_
    intro hw
    clear hw
    repeat' ((conv=>whnf);first|(with_reducible first|refine br_t ?_|refine br_f ?_|refine za ?_|refine zg ?_|refine zo ?_)|refine zsl ?_|refine zsg ?_|refine zss ?_|refine zs1 ?_|refine zse ?_|refine zsn ?_|refine zsc ?_|(with_reducible first|refine zpa ?_|refine zqa ?_)|refine zp ?_|refine zq ?_|(with_reducible first|refine bc (fun h => ?_) (fun h => ?_)|refine zt ?_|refine zf ?_|refine br_i (fun h => ?_) (fun h => ?_))|refine zg ?_|refine zi ?_|refine zb ?_|refine zl ?_)
    all_goals conv=>whnf
    all_goals rfl
   ·have h6:F.length≠4:=by omega
    refine fn_ok (by kernel_rfl) (ty_okK [8,80] [] [] []) Tryz.func29 rfl (fun _ _=>Tryz.call29 _ _) rfl ?_
    intro hw
    clear hw
    repeat' ((conv=>whnf);first|(with_reducible first|refine br_t ?_|refine br_f ?_|refine za ?_|refine zg ?_|refine zo ?_)|refine zsl ?_|refine zsg ?_|refine zss ?_|refine zs1 ?_|refine zse ?_|refine zsn ?_|refine zsc ?_|(with_reducible first|refine zpa ?_|refine zqa ?_)|refine zp ?_|refine zq ?_|(with_reducible first|refine bc (fun h => ?_) (fun h => ?_)|refine zt ?_|refine zf ?_|refine br_i (fun h => ?_) (fun h => ?_))|refine zg ?_|refine zi ?_|refine zb ?_|refine zl ?_)
    all_goals conv=>whnf
    all_goals rfl
 rw [if_neg hA]
 simp only [not_or,Nat.not_lt] at hA
 obtain ⟨hA1,hA2,hA3⟩:=hA
 have hA3:F.length=4:=Decidable.not_not.1 hA3
 match F,hA3 with
 | [f0,f1,f2,f3],_ =>
  have l1:=hf2 f1 (by simp)
  have g1:(([f0,f1,f2,f3]:List Str).map fun s=>[str s])[(1:Int).toNat]? = some [str f1]:=rfl
  have Hr:=rcReadNumber_fn f1 (by omega)
  simp only [List.getD_cons_succ,List.getD_cons_zero]
  unfold nowR
  generalize readR f1=q at *
  obtain ⟨⟨n,d⟩,e⟩:=q
  have Ha:=rasked_fn n d
  simp only [retR3] at Hr
  simp only
  by_cases he:e=0
  case neg =>
   rw [if_neg (fun k=>he k.1)]
   show FnOK _ _ _ (retMe (⟨0,0,[]⟩,12))
   simp only [retMe,Md.dc,pts,List.map_nil]
   refine fn_ok (by kernel_rfl) (ty_okK [8,80] [] [] []) Tryz.func29 rfl (fun _ _=>Tryz.call29 _ _) rfl ?_
   intro hw
   clear hw
   repeat' ((conv=>whnf);first|(with_reducible first|refine br_t ?_|refine br_f ?_|refine za ?_|refine zg ?_|refine zo ?_)|refine zsl ?_|refine zsg ?_|refine zss ?_|refine zs1 ?_|refine zse ?_|refine zsn ?_|refine zsc ?_|(with_reducible first|refine zpa ?_|refine zqa ?_)|refine zp ?_|refine zq ?_|(with_reducible first|refine bc (fun h => ?_) (fun h => ?_)|refine zt ?_|refine zf ?_|refine br_i (fun h => ?_) (fun h => ?_))|refine zg ?_|refine zi ?_|refine zb ?_|refine zl ?_)
   all_goals conv=>whnf
   all_goals rfl
  subst he
  by_cases ha:askd n d=0
  case neg =>
   rw [if_neg (fun k=>ha k.2)]
   show FnOK _ _ _ (retMe (⟨0,0,[]⟩,12))
   simp only [retMe,Md.dc,pts,List.map_nil]
   generalize askd n d=z at *
   refine fn_ok (by kernel_rfl) (ty_okK [8,80] [] [] []) Tryz.func29 rfl (fun _ _=>Tryz.call29 _ _) rfl ?_
   intro hw
   clear hw
   repeat' ((conv=>whnf);first|(with_reducible first|refine br_t ?_|refine br_f ?_|refine za ?_|refine zg ?_|refine zo ?_)|refine zsl ?_|refine zsg ?_|refine zss ?_|refine zs1 ?_|refine zse ?_|refine zsn ?_|refine zsc ?_|(with_reducible first|refine zpa ?_|refine zqa ?_)|refine zp ?_|refine zq ?_|(with_reducible first|refine bc (fun h => ?_) (fun h => ?_)|refine zt ?_|refine zf ?_|refine br_i (fun h => ?_) (fun h => ?_))|refine zg ?_|refine zi ?_|refine zb ?_|refine zl ?_)
   all_goals conv=>whnf
   all_goals rfl
  rw [if_pos ⟨rfl,ha⟩]
  rw [ha] at Ha
  dsimp only
  have ew3:IntKind.i64.wrap (((L.map fun s=>[str s]).length:Int)-3)=((L.length-3:Nat):Int):=by rw [hLl,IntWalk.i64_in _ (by omega)];omega
  have hA0:rdRws (pcdR n d) ((L.take 1).drop 1)=some []:=by
   rw [List.drop_take];rfl
  obtain ⟨X,hX⟩:∃ X,X=backS s ((rdRws (pcdR n d) ((L.take (L.length-3)).drop 1)).map fun l=>(n,d,l)):=⟨_,rfl⟩
  rw [← hX]
  obtain ⟨⟨X1,X2,X3⟩,X4⟩:=X
  simp only [retMe,Md.dc]
  refine fn_ok (by kernel_rfl) (ty_okK [8,80] [] [] []) Tryz.func29 rfl (fun _ _=>Tryz.call29 _ _) rfl ?_
  intro hw
  clear hw
  repeat' ((conv=>whnf);first|(with_reducible first|refine br_t ?_|refine br_f ?_|refine za ?_|refine zg ?_|refine zo ?_)|refine zsl ?_|refine zsg ?_|refine zss ?_|refine zs1 ?_|refine zse ?_|refine zsn ?_|refine zsc ?_|(with_reducible first|refine zpa ?_|refine zqa ?_)|refine zp ?_|refine zq ?_|(with_reducible first|refine bc (fun h => ?_) (fun h => ?_)|refine zt ?_|refine zf ?_|refine br_i (fun h => ?_) (fun h => ?_))|refine zg ?_|refine zi ?_|refine zb ?_|refine zl ?_)
  all_goals conv=>whnf
  refine loop_frz [8] ?_
  conv=>whnf
  refine loop_J (by kernel_rfl) (ty_okK [8,80] [] [] []) (σ:=Nat × List Pt) (fun x=>[(9,sV (.int .i64 (x.1:Nat))),(8,.c (.at (.osl 8 0)))]) (fun x=>[(8,.row 3 (x.2.map Pt.c) 0)]) (fun x=>1≤x.1∧x.1≤L.length-3∧rdRws (pcdR n d) ((L.take x.1).drop 1)=some x.2) (fun x=>L.length-3-x.1) (1,[]) ⟨Nat.le_refl _,by show 1≤_;omega,hA0⟩ ?_ ?_
  ·(conv=>whnf);exact zent
  rintro ⟨i,A⟩ ⟨hi1,hi2,hI⟩
  dsimp only at hi1 hi2 hI
  have hAl:=rdRws_len _ hI
  have hAl2:A.length≤68:=by rw [hAl];simp;omega
  have hAl3:(A.map Pt.c).length=A.length:=List.length_map ..
  rcases Nat.lt_or_ge i (L.length-3) with hlt|hge
  ·have hiL:i<L.length:=by omega
   have hel:(L.map fun s=>[str s])[((i:Nat):Int).toNat]? = some [str L[i]]:=by
    rw [Int.toNat_natCast,List.getElem?_map,List.getElem?_eq_getElem hiL];rfl
   have hli:=hl2 L[i] (List.getElem_mem hiL)
   have hst:=rdRws_step hi1 hiL hI
   have hsp:=fun h=>rdRws_stop (f:=pcdR n d) (L:=L) (n:=L.length-3) hi1 hlt (by omega) h
   have Hc:FnOK Tryz.prog 32 [.one (str L[i]),.one (.v (.int .u8 32))] (.c (.one (strs (spl 32 L[i])))):=rcCut_fn L[i] 32 (by omega)
   have hwe:=spl_each 32 L[i]
   generalize L[i]=line at *
   have Hp:=rtplaced_fn n d (spl 32 line) (fun x hx=>by have:=hwe x hx;omega)
   have hz:=rcZ_is n d (spl 32 line)
   rw [hz] at hst
   clear hz hwe
   generalize rcZ n d (spl 32 line)=z at *
   generalize spl 32 line=W at *
   obtain ⟨⟨z1,z2,z3⟩,zb⟩:=z
   have Hk:=kkCheck_fn z1 z2 z3
   have ew:IntKind.i64.wrap ((i:Int)+1)=((i+1:Nat):Int):=by rw [IntWalk.i64_in _ (by omega)];omega
   simp only [retPc,Pt.dc] at Hp
   have hck:(Pt.mk z1 z2 z3).chk=cpt z1 z2 z3:=rfl
   simp only [hck] at hst
   cases zb
   ·rw [if_neg (by simp)] at hst
    rw [hsp hst] at hX
    have hX:(⟨X1,X2,X3⟩,X4)=((⟨0,0,[]⟩,12):Md × Int):=hX
    injection hX with hX1 hX2
    injection hX1 with hX1 hX3 hX4
    subst hX1 hX2 hX3 hX4
    clear hsp hst Hk hI
    simp only [pts,List.map_nil]
    repeat' ((conv=>whnf);first|(with_reducible first|refine br_t ?_|refine br_f ?_|refine za ?_|refine zg ?_|refine zo ?_)|refine zsl ?_|refine zsg ?_|refine zss ?_|refine zs1 ?_|refine zse ?_|refine zsn ?_|refine zsc ?_|(with_reducible first|refine zpa ?_|refine zqa ?_)|refine zp ?_|refine zq ?_|(with_reducible first|refine bc (fun h => ?_) (fun h => ?_)|refine zt ?_|refine zf ?_|refine br_i (fun h => ?_) (fun h => ?_))|refine zg ?_|refine zi ?_|refine zb ?_|refine zl ?_)
    all_goals conv=>whnf
    all_goals rfl
   ·by_cases hc:cpt z1 z2 z3=0
    ·rw [if_pos ⟨rfl,hc⟩] at hst
     replace hst:rdRws (pcdR n d) ((L.take (i+1)).drop 1)=some (A++[(⟨z1,z2,z3⟩:Pt)]):=hst
     rw [hc] at Hk
     have hap:A.map Pt.c++[[i64 z1,i64 z2,i64 z3]]=(A++[(⟨z1,z2,z3⟩:Pt)]).map Pt.c:=by rw [List.map_append];rfl
     clear hsp hX hck
     repeat' ((conv=>whnf);first|(with_reducible first|refine br_t ?_|refine br_f ?_|refine za ?_|refine zg ?_|refine zo ?_)|refine zsl ?_|refine zsg ?_|refine zss ?_|refine zs1 ?_|refine zse ?_|refine zsn ?_|refine zsc ?_|(with_reducible first|refine zpa ?_|refine zqa ?_)|refine zp ?_|refine zq ?_|(with_reducible first|refine bc (fun h => ?_) (fun h => ?_)|refine zt ?_|refine zf ?_|refine br_i (fun h => ?_) (fun h => ?_))|refine zg ?_|refine zi ?_|refine zb ?_|refine zl ?_)
     all_goals conv=>whnf
     refine ⟨(i+1,A++[⟨z1,z2,z3⟩]),⟨by omega,hlt,hst⟩,?_,by simp only;omega⟩
     (conv=>whnf);refine ⟨by repeat' (first|with_reducible exact zE0|with_reducible refine zE1 ?_ ?_|rfl|assumption|((exact congrArg (fun x=>some (Blk.row 3 x 0)) hap))|exact zi1|exact zb1),by repeat' (first|with_reducible exact zH0|with_reducible refine zH1 ?_ ?_|rfl|assumption|((exact congrArg (fun x=>some (Blk.row 3 x 0)) hap))),rfl⟩
    ·rw [if_neg (fun k=>hc k.2)] at hst
     rw [hsp hst] at hX
     have hX:(⟨X1,X2,X3⟩,X4)=((⟨0,0,[]⟩,12):Md × Int):=hX
     injection hX with hX1 hX2
     injection hX1 with hX1 hX3 hX4
     subst hX1 hX2 hX3 hX4
     clear hsp hst hI hck
     generalize cpt z1 z2 z3=z at *
     simp only [pts,List.map_nil]
     repeat' ((conv=>whnf);first|(with_reducible first|refine br_t ?_|refine br_f ?_|refine za ?_|refine zg ?_|refine zo ?_)|refine zsl ?_|refine zsg ?_|refine zss ?_|refine zs1 ?_|refine zse ?_|refine zsn ?_|refine zsc ?_|(with_reducible first|refine zpa ?_|refine zqa ?_)|refine zp ?_|refine zq ?_|(with_reducible first|refine bc (fun h => ?_) (fun h => ?_)|refine zt ?_|refine zf ?_|refine br_i (fun h => ?_) (fun h => ?_))|refine zg ?_|refine zi ?_|refine zb ?_|refine zl ?_)
     all_goals conv=>whnf
     all_goals rfl
  ·obtain rfl:i=L.length-3:=by omega
   rw [hI] at hX
   obtain ⟨hp,hsrt⟩:=psR_ok A
   have Hs:=rtsorted_fn A (by omega)
   have Hk:=roCheck_fn ⟨n,d,psR A⟩
   have Ht:=rtstanding_fn ⟨n,d,psR A⟩
   have hX:(⟨X1,X2,X3⟩,X4)=backS s (some (n,d,A)):=hX
   rcases smd_cases (s:=s) (n:=n) (d:=d) hp hsrt with ⟨h1,h2,h⟩|⟨h1,h2,h⟩|⟨h1,h⟩
   all_goals rw [h1] at Hk
   all_goals rw [h] at hX
   all_goals try replace Ht:=Ht h1
   all_goals clear h h1 hI hp hsrt
   all_goals obtain ⟨T,hT⟩:∃ T,T=stT ⟨n,d,psR A⟩:=⟨_,rfl⟩
   all_goals try rw [← hT] at h2
   all_goals try rw [← hT] at Ht
   all_goals clear hT
   all_goals generalize psR A=B at *
   all_goals simp only [Md.dc] at Hk Ht
   ·injection hX with hX1 hX2
    injection hX1 with hX1 hX3 hX4
    subst hX1 hX2 hX3 hX4
    repeat' ((conv=>whnf);first|(with_reducible first|refine br_t ?_|refine br_f ?_|refine za ?_|refine zg ?_|refine zo ?_)|refine zsl ?_|refine zsg ?_|refine zss ?_|refine zs1 ?_|refine zse ?_|refine zsn ?_|refine zsc ?_|(with_reducible first|refine zpa ?_|refine zqa ?_)|refine zp ?_|refine zq ?_|(with_reducible first|refine bc (fun h => ?_) (fun h => ?_)|refine zt ?_|refine zf ?_|refine br_i (fun h => ?_) (fun h => ?_))|refine zg ?_|refine zi ?_|refine zb ?_|refine zl ?_)
    all_goals conv=>whnf
    all_goals first|rfl|contradiction
   ·injection hX with hX1 hX2
    injection hX1 with hX1 hX3 hX4
    subst hX1 hX2 hX3 hX4
    simp only [pts,List.map_nil] at *
    repeat' ((conv=>whnf);first|(with_reducible first|refine br_t ?_|refine br_f ?_|refine za ?_|refine zg ?_|refine zo ?_)|refine zsl ?_|refine zsg ?_|refine zss ?_|refine zs1 ?_|refine zse ?_|refine zsn ?_|refine zsc ?_|(with_reducible first|refine zpa ?_|refine zqa ?_)|refine zp ?_|refine zq ?_|(with_reducible first|refine bc (fun h => ?_) (fun h => ?_)|refine zt ?_|refine zf ?_|refine br_i (fun h => ?_) (fun h => ?_))|refine zg ?_|refine zi ?_|refine zb ?_|refine zl ?_)
    all_goals conv=>whnf
    all_goals first|rfl|contradiction
   ·injection hX with hX1 hX2
    injection hX1 with hX1 hX3 hX4
    subst hX1 hX2 hX3 hX4
    clear Ht
    simp only [pts,List.map_nil] at *
    repeat' ((conv=>whnf);first|(with_reducible first|refine br_t ?_|refine br_f ?_|refine za ?_|refine zg ?_|refine zo ?_)|refine zsl ?_|refine zsg ?_|refine zss ?_|refine zs1 ?_|refine zse ?_|refine zsn ?_|refine zsc ?_|(with_reducible first|refine zpa ?_|refine zqa ?_)|refine zp ?_|refine zq ?_|(with_reducible first|refine bc (fun h => ?_) (fun h => ?_)|refine zt ?_|refine zf ?_|refine br_i (fun h => ?_) (fun h => ?_))|refine zg ?_|refine zi ?_|refine zb ?_|refine zl ?_)
    all_goals conv=>whnf
    all_goals first|rfl|contradiction
end Go.Proofs.YtfkfficabeclcaaGreatDoor

namespace Go.Proofs.YtfkfficabeclcaaGreatDoor
open Go Go.RowKit Go.Sort Sx
open Go.Lib hiding intOf
theorem bsz (s:Str):(⟨s.toArray⟩:ByteArray).size=s.length:=by simp [ByteArray.size]
theorem bdl (s:Str):(⟨s.toArray⟩:ByteArray).data.toList=s:=by simp
theorem atoV_ok {s:Str} {v:Int} (h:atoV s=some v):atoiAll s=.ok v:=by
 unfold atoV at h
 split at h
 ·rename_i v' e;injection h with h;subst h;exact e
 ·cases h
theorem below_bw {w w':World} {e:TypeId} (h:w'=w∨∃ t,w'=Lib.bytesWorld w e t):Below w.heap.size w w':=by
 rcases h with rfl|⟨t,rfl⟩
 ·exact Below.refl _ _
 ·exact bytesWorld_below _ _ _
theorem atoi_yes {s:Str} {v:Int} (hs:s.length≤1000000) (h:atoV s=some v) (w:World):Calls Tryz.prog 85 #[bstr s] w fun e w'=>e=.returned (.tuple #[.int .i64 v,.nilIface])∧Below w.heap.size w w' :=
 (Tryz.strconv_Atoi_ok ⟨s.toArray⟩ (by rw [bsz];omega) v (by rw [bdl];exact atoV_ok h) w).mono fun _ _ ⟨a,b⟩=>⟨a,below_bw b⟩
theorem parse_yes {s:Str} {v:Int} (hs:s.length≤1000000) (h:atoV s=some v) (w:World):Calls Tryz.prog 86 #[bstr s,.int .i64 10,.int .i64 64] w fun e w'=>e=.returned (.tuple #[.int .i64 v,.nilIface])∧Below w.heap.size w w' :=
 (Tryz.strconv_ParseInt_10_at64_ok ⟨s.toArray⟩ (by rw [bsz];omega) v (by rw [parseIntB_64,bdl];exact atoV_ok h) w).mono fun _ _ ⟨a,b⟩=>⟨a,below_bw b⟩
theorem atoi_no {s:Str} (hs:s.length≤1000000) (h:atoV s=none) {w:World} (hg:Gd w):Calls Tryz.prog 85 #[bstr s] w fun e w'=>∃ n N,e=.returned (.tuple #[.int .i64 n,.iface 245 (.pointer (some ⟨N,0,none⟩))])∧Below w.heap.size w w':=by
 obtain ⟨t1,p1,h1⟩:=hg.es
 obtain ⟨t2,p2,h2⟩:=hg.er
 have hz:(⟨s.toArray⟩:ByteArray).size≤281474976710656:=by rw [bsz];omega
 unfold atoV at h
 rcases e:atoiAll s with v|_|_
 ·rw [e] at h;cases h
 ·exact (Tryz.strconv_Atoi_syntax_var ⟨s.toArray⟩ hz (by rw [bdl];exact e) t1 p1 w h1).mono fun _ _ ⟨N,a,_,_,b⟩=>⟨_,N,a,b⟩
 ·exact (Tryz.strconv_Atoi_range_var ⟨s.toArray⟩ hz (by rw [bdl];exact e) t2 p2 w h2).mono fun _ _ ⟨N,a,_,_,b⟩=>⟨_,N,a,b⟩
theorem parse_no {s:Str} (hs:s.length≤1000000) (h:atoV s=none) {w:World} (hg:Gd w):Calls Tryz.prog 86 #[bstr s,.int .i64 10,.int .i64 64] w fun e w'=>∃ n N,e=.returned (.tuple #[.int .i64 n,.iface 245 (.pointer (some ⟨N,0,none⟩))])∧Below w.heap.size w w':=by
 obtain ⟨t1,p1,h1⟩:=hg.es
 obtain ⟨t2,p2,h2⟩:=hg.er
 have hz:(⟨s.toArray⟩:ByteArray).size≤281474976710656:=by rw [bsz];omega
 unfold atoV at h
 rcases e:atoiAll s with v|_|_
 ·rw [e] at h;cases h
 ·exact (Tryz.strconv_ParseInt_10_at64_syntax_var ⟨s.toArray⟩ hz (by rw [parseIntB_64,bdl];exact e) t1 p1 w h1).mono fun _ _ ⟨N,a,_,_,b⟩=>⟨_,N,a,b⟩
 ·exact (Tryz.strconv_ParseInt_10_at64_range_var ⟨s.toArray⟩ hz (by rw [parseIntB_64,bdl];exact e) t2 p2 w h2).mono fun _ _ ⟨N,a,_,_,b⟩=>⟨_,N,a,b⟩
inductive Tg where
 | i (b o:Nat)
 | l (b o:Nat)
 | r (b o:Nat)
def Tg.b:Tg→Nat
 | .i b _=>b
 | .l b _=>b
 | .r b _=>b
def Tg.v:Tg→Value
 | .i b o=>.iface 136 (.pointer (some ⟨b,o,none⟩))
 | .l b o=>.iface 145 (.pointer (some ⟨b,o,none⟩))
 | .r b o=>.iface 93 (.pointer (some ⟨b,o,none⟩))
def Cel (W:World) (b o:Nat):Prop:=(∃ u,W.cell? ⟨b,o,none⟩=some u)∧W.frozen? ⟨b,o,none⟩=false
def Tg.ok (W:World):Tg→Prop
 | .i b o=>Cel W b o
 | .l b o=>Cel W b o
 | .r b o=>Cel W b o∧Cel W b (o+1)
def Tg.put (s:Str) (W:World):Tg→Option World
 | .i b o=>(atoV s).map fun n=>W.setCell ⟨b,o,none⟩ (.int .i64 n)
 | .l b o=>(atoV s).map fun n=>W.setCell ⟨b,o,none⟩ (.int .i64 n)
 | .r b o=>(frV s).map fun q=>(W.setCell ⟨b,o,none⟩ (.int .i64 q.1)).setCell ⟨b,o+1,none⟩ (.int .i64 q.2)
def scanW:List Str→List Tg→World→World × Bool
 | s::ws,t::ts,W=>match t.put s W with
  | some W'=>scanW ws ts W'
  | none=>(W,false)
 | _,_,W=>(W,true)
theorem cel_set {W:World} {b o:Nat} (h:Cel W b o) (a:Addr) (v:Value):Cel (W.setCell a v) b o:=by
 obtain ⟨⟨u,h1⟩,h2⟩:=h
 refine ⟨cell?_setCell_some h1,?_⟩
 by_cases e:b=a.block
 ·subst e
  unfold World.frozen? at h2 ⊢
  simp only [World.setCell,Array.getElem?_modify] at h2 ⊢
  cases hk:W.heap[a.block]? with
  | none=>simp [World.cell?,hk] at h1
  | some x =>
   simp only [hk] at h2 ⊢
   cases x<;>simp_all
 ·rw [World.frozen?_of_block (w:=W) (Below.heap_setCell W a v b e)];exact h2
theorem Tg.ok_set {W:World} {t:Tg} (h:t.ok W) (a:Addr) (v:Value):t.ok (W.setCell a v):=by
 cases t with
 | i b o=>exact cel_set h a v
 | l b o=>exact cel_set h a v
 | r b o=>exact ⟨cel_set h.1 a v,cel_set h.2 a v⟩
theorem cel_of {W W':World} {b o:Nat} (h:Cel W b o) (e:W'.heap[b]? = W.heap[b]?):Cel W' b o:=by
 obtain ⟨⟨u,h1⟩,h2⟩:=h
 exact ⟨⟨u,(World.cell?_of_block (w:=W) (a:=⟨b,o,none⟩) e).trans h1⟩,(World.frozen?_of_block (w:=W) (a:=⟨b,o,none⟩) e).trans h2⟩
theorem size_set (W:World) (a:Addr) (v:Value):(W.setCell a v).heap.size=W.heap.size:=by simp [World.setCell]
theorem below_set {n:Nat} {W W':World} (h:Below n W W') (a:Addr) (v:Value):Below n (W.setCell a v) (W'.setCell a v):=by
 refine ⟨h.os,h.tape,h.output,by rw [size_set,size_set];exact h.size,fun k hk => ?_⟩
 simp only [World.setCell,Array.getElem?_modify]
 rw [h.block k hk]
end Go.Proofs.YtfkfficabeclcaaGreatDoor

namespace Go.Proofs.YtfkfficabeclcaaGreatDoor
open Go Go.RowKit Go.Sort Sx
open Go.Lib hiding intOf
theorem rep_words {w:World} {M:Nat→Prop} {l:List Str} {v:Value} (h:Rep w M (strs l) v):∃ a c,v=.slice a l.length c∧∀ i (hi:i<l.length),∃ b off,a=some ⟨b,off,none⟩∧b<w.heap.size∧¬ M b∧w.cell? ⟨b,off+i,none⟩=some (bstr l[i]):=by
 obtain ⟨L,hL⟩:∃ L:List (List Sx.D),L=l.map fun s=>[str s]:=⟨_,rfl⟩
 have hll:L.length=l.length:=by rw [hL,List.length_map]
 have h':Rep w M (.list 1 L) v:=by rw [hL];exact h
 clear h
 cases h' with
 | nil k x c hm hx =>
  refine ⟨x,c,by rw [← hll];rfl,fun i hi => ?_⟩
  rw [← hll] at hi;exact absurd hi (Nat.not_lt_zero _)
 | @list b off cap k L vs hc hm hMb hb hk hv hr =>
  refine ⟨_,cap,by rw [hll],fun i hi=>⟨b,off,rfl,hb,hMb,?_⟩⟩
  have hi':i<L.length:=by omega
  have e1:L[i]=[str l[i]]:=by subst hL;rw [List.getElem_map]
  have h1:=hv i 0 hi' (by decide)
  have h2:=hr i 0 hi' (by rw [e1];exact Nat.zero_lt_one)
  have e2:L[i][0]'(by rw [e1];exact Nat.zero_lt_one)=str l[i]:=by simp only [e1];rfl
  rw [e2] at h2
  have h3:vs i 0=bstr l[i]:=by
   generalize vs i 0=u at h2
   cases h2;rfl
  rw [h3,Nat.mul_one,Nat.add_zero] at h1
  exact h1
structure Outs (w:World) (ts:List Tg) (a:Option Addr):Prop where
 at_:∀ i (hi:i<ts.length),∃ b off,a=some ⟨b,off,none⟩∧b<w.heap.size∧(∀ t∈ts,t.b≠b)∧w.cell? ⟨b,off+i,none⟩=some ts[i].v
 gl:∀ t∈ts,gl≤t.b
 lt:∀ t∈ts,t.b<w.heap.size
 ok:∀ t∈ts,t.ok w
set_option maxRecDepth 100000 in
set_option maxHeartbeats 4000000 in
theorem scan_any (ws:List Str) (ts:List Tg) (hl:ws.length≤1000000) (hlt:ts.length≤100) (hs:∀ x∈ws,x.length≤1000000) (w:World) (hg:Gd w) (slw:Value) (hw:Rep w (fun b=>∃ t∈ts,t.b=b) (strs ws) slw) (a:Option Addr) (c:Nat) (ho:Outs w ts a) :
  Calls Tryz.prog 45 #[slw,.slice a ts.length c] w fun e w'=>if ws.length=ts.length then e=.returned (.bool (scanW ws ts w).2)∧Below w.heap.size (scanW ws ts w).1 w' else e=.returned (.bool false)∧Below w.heap.size w w':=by
 obtain ⟨aw,cw,rfl,hcw⟩:=rep_words hw
 by_cases hlen:ws.length=ts.length
 case neg =>
  simp only [if_neg hlen]
  have hn:((ws.length:Int) != (ts.length:Int))=true:=bne_iff_ne.2 (by omega)
  go_enter Tryz.func45,Tryz.ntmps45
  go_wp2
  go_ret
  exact ⟨rfl,Below.refl _ _⟩
 simp only [if_pos hlen]
 have hn:((ts.length:Int) != (ts.length:Int))=false:=bne_eq_false_iff_eq.2 rfl
 rw [hlen]
 go_enter Tryz.func45,Tryz.ntmps45
 go_wp2
 go_loopw [23] (fun i wr=>∃ (k:Nat) (Wk:World),k≤ts.length∧i=.int .i64 k∧scanW ws ts w=scanW (ws.drop k) (ts.drop k) Wk∧Below w.heap.size Wk wr∧Wk.heap.size=w.heap.size∧(∀ b,(∀ t∈ts,t.b≠b)→Wk.heap[b]? = w.heap[b]?)∧∀ t∈ts,t.ok Wk) (fun i _=>ts.length-(intOf i).toNat)
 case atStart=>exact ⟨0,w,Nat.zero_le _,rfl,rfl,Below.refl _ _,rfl,fun _ _=>rfl,ho.ok⟩
 case round =>
  obtain ⟨k,Wk,hk,rfl,hsc,hB,hWs,hkp,hok⟩:=hrel
  obtain ⟨wo,hwo⟩:∃ wo,wo=wr:=⟨_,rfl⟩
  subst hwo
  have hsz:w.heap.size≤wo.heap.size:=by have:=hB.size;omega
  have hoff:∀ b,b<w.heap.size→(∀ t∈ts,t.b≠b)→wo.heap[b]? = w.heap[b]? := fun b hb hn=>(hB.block b hb).trans (hkp b hn)
  have hgW:Gd wo:=gd_keep hsz (fun b hb=>hoff b (Nat.lt_of_lt_of_le hb (gd_size hg)) fun t ht e=>by have:=ho.gl t ht;omega) hg
  rcases Nat.lt_or_ge k ts.length with hlt'|hge
  ·have hkw:k<ws.length:=by omega
   obtain ⟨bw,ow,ha1,hb1,hM1,hc1⟩:=hcw k hkw
   obtain ⟨bo,oo,ha2,hb2,hM2,hc2⟩:=ho.at_ k hlt'
   subst ha1
   subst ha2
   have hcw1:wo.cell? ⟨bw,ow+k,none⟩=some (bstr ws[k]):=(World.cell?_of_block (w:=w) (a:=⟨bw,ow+k,none⟩) (hoff bw hb1 fun t ht e=>hM1 ⟨t,ht,e⟩)).trans hc1
   have hco1:wo.cell? ⟨bo,oo+k,none⟩=some ts[k].v:=(World.cell?_of_block (w:=w) (a:=⟨bo,oo+k,none⟩) (hoff bo hb2 hM2)).trans hc2
   have hmem:=List.getElem_mem hlt'
   have hok1:=hok _ hmem
   have hgl1:=ho.gl _ hmem
   have hlt1:=ho.lt _ hmem
   have hx:=hs _ (List.getElem_mem hkw)
   rw [List.drop_eq_getElem_cons hkw,List.drop_eq_getElem_cons hlt',scanW] at hsc
   have hset:∀ (a:Addr) (v:Value),(∃ t∈ts,t.b=a.block)→(∀ b,(∀ t∈ts,t.b≠b)→(Wk.setCell a v).heap[b]? = w.heap[b]?)∧∀ t∈ts,t.ok (Wk.setCell a v):=fun a v ⟨t,ht,e⟩=>⟨fun b hb=>(Below.heap_setCell Wk a v b (fun e'=>hb t ht (e.trans e'.symm))).trans (hkp b hb),fun t ht=>Tg.ok_set (hok t ht) a v⟩
   have hset2:∀ (a:Addr) (v:Value) (a':Addr) (v':Value),(∃ t∈ts,t.b=a.block)→(∃ t∈ts,t.b=a'.block)→(∀ b,(∀ t∈ts,t.b≠b)→((Wk.setCell a v).setCell a' v').heap[b]? = w.heap[b]?)∧∀ t∈ts,t.ok ((Wk.setCell a v).setCell a' v'):=fun a v a' v' h1 ⟨t,ht,e⟩=>⟨fun b hb=>(Below.heap_setCell _ a' v' b (fun e'=>hb t ht (e.trans e'.symm))).trans ((hset a v h1).1 b hb),fun t ht=>Tg.ok_set ((hset a v h1).2 t ht) a' v'⟩
   have hmb:∃ t∈ts,t.b=ts[k].b:=⟨_,hmem,rfl⟩
   clear hcw hc1 hc2 hs hM1 hM2
   generalize ts[k]=t at *
   generalize ws[k]=x at *
   cases t with
   | i b o =>
    have hco:wo.cell? ⟨bo,oo+k,none⟩=some (.iface 136 (.pointer (some ⟨b,o,none⟩))):=hco1
    have hb:b<w.heap.size:=hlt1
    have hcel:Cel Wk b o:=hok1
    have hmb':∃ t∈ts,t.b=b:=hmb
    clear hco1 hlt1 hok1 hmb
    have ty:=fun w=>ta_yes Tryz.underlying136 (fun _ h=>by cases h) (.pointer (some ⟨b,o,none⟩)) 20 w
    cases hv:atoV x with
    | none =>
     have hI:=atoi_no hx hv hgW
     have hsc':scanW ws ts w=(Wk,false):=by rw [hsc];simp only [Tg.put,hv,Option.map_none]
     go_wp2_with (go_at_call 85;(with_reducible refine Calls.mono hI ?_);rintro e W1 ⟨n,N,rfl,B1⟩)
     go_ret
     rw [hsc']
     exact ⟨rfl,hB.trans (B1.mono hsz)⟩
    | some v =>
     have hI:=atoi_yes hx hv wo
     have hsc':scanW ws ts w=scanW (ws.drop (k+1)) (ts.drop (k+1)) (Wk.setCell ⟨b,o,none⟩ (.int .i64 v)):=by rw [hsc];simp only [Tg.put,hv,Option.map_some]
     obtain ⟨⟨u,hu⟩,hf⟩:=cel_of hcel (hB.block b hb)
     have kp:∀ {W':World},Below wo.heap.size wo W'→W'.cell? ⟨b,o,none⟩=some u∧W'.frozen? ⟨b,o,none⟩=false:=fun hb'=>⟨(World.cell?_of_block (w:=wo) (a:=⟨b,o,none⟩) (hb'.block b (by omega))).trans hu,(World.frozen?_of_block (w:=wo) (a:=⟨b,o,none⟩) (hb'.block b (by omega))).trans hf⟩
     clear hsc
     go_wp2_with (first
      | (go_at_call 85;(with_reducible refine Calls.mono hI ?_);rintro e W1 ⟨rfl,B1⟩;have g0:=(kp B1).1;have g1:=(kp B1).2)
      | (rw [Oper.semAt_eq _ _ _ (fun c h=>by cases h)];go_simp;try go_bits))
     go_roundw
     case rel =>
      refine ⟨k+1,Wk.setCell ⟨b,o,none⟩ (.int .i64 v),hlt',by go_num,hsc',below_set (hB.trans (B1.mono hsz)) _ _,(size_set _ _ _).trans hWs,(hset _ _ hmb').1,(hset _ _ hmb').2⟩
     case measure=>simp [intOf];omega
   | l b o =>
    have hco:wo.cell? ⟨bo,oo+k,none⟩=some (.iface 145 (.pointer (some ⟨b,o,none⟩))):=hco1
    have hb:b<w.heap.size:=hlt1
    have hcel:Cel Wk b o:=hok1
    have hmb':∃ t∈ts,t.b=b:=hmb
    clear hco1 hlt1 hok1 hmb
    have t0:=fun w=>ta_no Tryz.underlying136 (fun _ h=>by cases h) Tryz.zeroValue136 (show (145:TypeId)≠136 by decide) (.pointer (some ⟨b,o,none⟩)) 20 w
    have ty:=fun w=>ta_yes Tryz.underlying145 (fun _ h=>by cases h) (.pointer (some ⟨b,o,none⟩)) 20 w
    cases hv:atoV x with
    | none =>
     have hI:=parse_no hx hv hgW
     have hsc':scanW ws ts w=(Wk,false):=by rw [hsc];simp only [Tg.put,hv,Option.map_none]
     go_wp2_with (go_at_call 86;(with_reducible refine Calls.mono hI ?_);rintro e W1 ⟨n,N,rfl,B1⟩)
     go_ret
     rw [hsc']
     exact ⟨rfl,hB.trans (B1.mono hsz)⟩
    | some v =>
     have hI:=parse_yes hx hv wo
     have hsc':scanW ws ts w=scanW (ws.drop (k+1)) (ts.drop (k+1)) (Wk.setCell ⟨b,o,none⟩ (.int .i64 v)):=by rw [hsc];simp only [Tg.put,hv,Option.map_some]
     obtain ⟨⟨u,hu⟩,hf⟩:=cel_of hcel (hB.block b hb)
     have kp:∀ {W':World},Below wo.heap.size wo W'→W'.cell? ⟨b,o,none⟩=some u∧W'.frozen? ⟨b,o,none⟩=false:=fun hb'=>⟨(World.cell?_of_block (w:=wo) (a:=⟨b,o,none⟩) (hb'.block b (by omega))).trans hu,(World.frozen?_of_block (w:=wo) (a:=⟨b,o,none⟩) (hb'.block b (by omega))).trans hf⟩
     clear hsc
     go_wp2_with (first
      | (go_at_call 86;(with_reducible refine Calls.mono hI ?_);rintro e W1 ⟨rfl,B1⟩;have g0:=(kp B1).1;have g1:=(kp B1).2)
      | (rw [Oper.semAt_eq _ _ _ (fun c h=>by cases h)];go_simp;try go_bits))
     go_roundw
     case rel =>
      refine ⟨k+1,Wk.setCell ⟨b,o,none⟩ (.int .i64 v),hlt',by go_num,hsc',below_set (hB.trans (B1.mono hsz)) _ _,(size_set _ _ _).trans hWs,(hset _ _ hmb').1,(hset _ _ hmb').2⟩
     case measure=>simp [intOf];omega
   | r b o =>
    have hco:wo.cell? ⟨bo,oo+k,none⟩=some (.iface 93 (.pointer (some ⟨b,o,none⟩))):=hco1
    have hb:b<w.heap.size:=hlt1
    have hcel:Cel Wk b o∧Cel Wk b (o+1):=hok1
    have hmb':∃ t∈ts,t.b=b:=hmb
    clear hco1 hlt1 hok1 hmb
    have t0:=fun w=>ta_no Tryz.underlying136 (fun _ h=>by cases h) Tryz.zeroValue136 (show (93:TypeId)≠136 by decide) (.pointer (some ⟨b,o,none⟩)) 20 w
    have t1:=fun w=>ta_no Tryz.underlying145 (fun _ h=>by cases h) Tryz.zeroValue145 (show (93:TypeId)≠145 by decide) (.pointer (some ⟨b,o,none⟩)) 20 w
    have ty:=fun w=>ta_yes Tryz.underlying93 (fun _ h=>by cases h) (.pointer (some ⟨b,o,none⟩)) 20 w
    have hI:=(fn_call (vs:=[bstr x]) (fun _ _=>Tryz.call87 _ _) rfl (cReadNumber_fn x hx) hgW ⟨.v _ rfl trivial,trivial⟩)
    have hfr:frV x=if (readV x).2=0 then some (readV x).1 else none:=rfl
    generalize readV x=q at *
    obtain ⟨⟨qn,qd⟩,qe⟩:=q
    simp only at hI hfr
    by_cases hq:qe=0
    ·subst hq
     rw [if_pos rfl] at hfr
     have hsc':scanW ws ts w=scanW (ws.drop (k+1)) (ts.drop (k+1)) ((Wk.setCell ⟨b,o,none⟩ (.int .i64 qn)).setCell ⟨b,o+1,none⟩ (.int .i64 qd)):=by rw [hsc];simp only [Tg.put,hfr,Option.map_some]
     obtain ⟨⟨u,hu⟩,hf⟩:=cel_of hcel.1 (hB.block b hb)
     obtain ⟨⟨u',hu'⟩,hf'⟩:=cel_of hcel.2 (hB.block b hb)
     have kp:∀ {W':World},Below wo.heap.size wo W'→W'.cell? ⟨b,o,none⟩=some u∧W'.frozen? ⟨b,o,none⟩=false∧W'.cell? ⟨b,o+1,none⟩=some u'∧W'.frozen? ⟨b,o+1,none⟩=false:=fun hb'=>⟨(World.cell?_of_block (w:=wo) (a:=⟨b,o,none⟩) (hb'.block b (by omega))).trans hu,(World.frozen?_of_block (w:=wo) (a:=⟨b,o,none⟩) (hb'.block b (by omega))).trans hf,(World.cell?_of_block (w:=wo) (a:=⟨b,o+1,none⟩) (hb'.block b (by omega))).trans hu',(World.frozen?_of_block (w:=wo) (a:=⟨b,o+1,none⟩) (hb'.block b (by omega))).trans hf'⟩
     clear hsc hfr
     go_wp2_with (first
      | (go_at_call 87;(with_reducible refine Calls.mono hI ?_);rintro e W1 ⟨rfl,B1⟩;have B2:Below wo.heap.size wo (W1.alloc (.cells #[.int .i64 qn,.int .i64 qd] 25)):=B1.alloc B1.size _;obtain ⟨g0,g1,g2,g3⟩:=kp B2)
      | (rw [Oper.semAt_eq _ _ _ (fun c h=>by cases h)];go_simp;try go_bits))
     go_roundw
     case rel =>
      refine ⟨k+1,(Wk.setCell ⟨b,o,none⟩ (.int .i64 qn)).setCell ⟨b,o+1,none⟩ (.int .i64 qd),hlt',by go_num,hsc',below_set (below_set (hB.trans (B2.mono hsz)) _ _) _ _,(size_set _ _ _).trans ((size_set _ _ _).trans hWs),(hset2 _ _ _ _ hmb' hmb').1,(hset2 _ _ _ _ hmb' hmb').2⟩
     case measure=>simp [intOf];omega
    ·rw [if_neg hq] at hfr
     have hsc':scanW ws ts w=(Wk,false):=by rw [hsc];simp only [Tg.put,hfr,Option.map_none]
     have hqb:(qe != 0)=true:=bne_iff_ne.2 hq
     clear hsc hfr
     go_wp2_with (go_at_call 87;(with_reducible refine Calls.mono hI ?_);rintro e W1 ⟨rfl,B1⟩)
     go_ret
     rw [hsc']
     exact ⟨rfl,hB.trans ((B1.alloc B1.size _).mono hsz)⟩
  ·obtain rfl:k=ts.length:=by omega
   have hd1:ws.drop ts.length=[]:=by rw [← hlen,List.drop_length]
   have hsc':scanW ws ts w=(Wk,true):=by rw [hsc,hd1];simp [scanW]
   go_wp2
   go_ret
   rw [hsc']
   exact ⟨rfl,hB⟩
end Go.Proofs.YtfkfficabeclcaaGreatDoor

namespace Go.Proofs.YtfkfficabeclcaaGreatDoor
open Go Go.RowKit Go.Sort Sx
open Go.Lib hiding intOf
end Go.Proofs.YtfkfficabeclcaaGreatDoor

namespace Go.Proofs.YtfkfficabeclcaaGreatDoor
open Go Go.RowKit Go.Sort Sx
open Go.Lib hiding intOf
theorem scanW_keep:∀ (ws:List Str) (ts:List Tg) (W:World),(scanW ws ts W).1.heap.size=W.heap.size∧(∀ k,(∀ t∈ts,t.b≠k)→(scanW ws ts W).1.heap[k]? = W.heap[k]?)∧∀ n,(∀ t∈ts,n≤t.b)→Below n W (scanW ws ts W).1
 | [],_,W=>⟨rfl,fun _ _=>rfl,fun _ _=>Below.refl _ _⟩
 | _::_,[],W=>⟨rfl,fun _ _=>rfl,fun _ _=>Below.refl _ _⟩
 | s::ws,t::ts,W=>by
  rw [scanW]
  have hput:∀ W',t.put s W=some W'→W'.heap.size=W.heap.size∧(∀ k,t.b≠k→W'.heap[k]? = W.heap[k]?)∧∀ n,n≤t.b→Below n W W':=by
   intro W' h
   cases t with
   | i b o =>
    obtain ⟨v,_,rfl⟩:=Option.map_eq_some_iff.1 h
    exact ⟨size_set _ _ _,fun k hk=>setCell_other fun e=>hk e.symm,fun n hn=>(Below.refl _ _).setCell hn _⟩
   | l b o =>
    obtain ⟨v,_,rfl⟩:=Option.map_eq_some_iff.1 h
    exact ⟨size_set _ _ _,fun k hk=>setCell_other fun e=>hk e.symm,fun n hn=>(Below.refl _ _).setCell hn _⟩
   | r b o =>
    obtain ⟨v,_,rfl⟩:=Option.map_eq_some_iff.1 h
    exact ⟨(size_set _ _ _).trans (size_set _ _ _),fun k hk=>(setCell_other fun e=>hk e.symm).trans (setCell_other fun e=>hk e.symm),fun n hn=>((Below.refl _ _).setCell hn _).setCell hn _⟩
  cases h:t.put s W with
  | none=>exact ⟨rfl,fun _ _=>rfl,fun _ _=>Below.refl _ _⟩
  | some W' =>
   obtain ⟨a1,a2,a3⟩:=hput W' h
   obtain ⟨b1,b2,b3⟩:=scanW_keep ws ts W'
   exact ⟨b1.trans a1,fun k hk=>(b2 k fun t ht=>hk t (List.mem_cons_of_mem _ ht)).trans (a2 k (hk t (List.mem_cons_self ..))),fun n hn=>(a3 n (hn t (List.mem_cons_self ..))).trans (b3 n fun t ht=>hn t (List.mem_cons_of_mem _ ht))⟩
end Go.Proofs.YtfkfficabeclcaaGreatDoor

namespace Go.Proofs.YtfkfficabeclcaaGreatDoor
open Go Go.RowKit Go.Sort Sx
open Go.Lib hiding intOf
theorem set6 {W:World} {b:Nat} {cs:Array Value} {T:TypeId} (i:Nat) (v:Value) (h:W.heap[b]? = some (.cells cs T (0,0))):(W.setCell ⟨b,i,none⟩ v).heap[b]? = some (.cells (cs.setIfInBounds i v) T (0,0)):=by
 obtain ⟨hlt,hk⟩:=Array.getElem?_eq_some_iff.1 h
 show (W.heap.modify b _)[b]? = _
 rw [Array.getElem?_eq_getElem (by rw [Array.size_modify];exact hlt),Array.getElem_modify_self,hk]
 rfl
theorem cel6 {W:World} {b o:Nat} {cs:Array Value} {T:TypeId} (h:W.heap[b]? = some (.cells cs T (0,0))) (ho:o<cs.size):Cel W b o:=by
 refine ⟨⟨cs[o],?_⟩,?_⟩<;>simp [World.cell?,World.frozen?,h,ho]
theorem atoV_in {s:Str} {v:Int} (h:atoV s=some v):in64 v:=atoiAll_bounds (atoV_ok h)
theorem frV_in {s:Str} {q:Int × Int} (h:frV s=some q):in64 q.1∧in64 q.2:=⟨fit_in (frV_fit h).1,fit_in (frV_fit h).2⟩
end Go.Proofs.YtfkfficabeclcaaGreatDoor
