import Derived.Test.YtddbmpbihpkabaaGreatGLGPartsAS
import Derived.Test.YtddbmpbihpkabaaGreatGLGPartsAL
import Derived.Test.YtddbmpbihpkabaaGreatGLGPartsAA
import Derived.Test.YtddbmpbihpkabaaGreatGLGPartsAK
import Derived.Lib.AppendZerosOnto
import Derived.Shelf.Spec.SlicesInsert
set_option linter.all false
namespace Go.Proofs.YtddbmpbihpkabaaGreat
open Go Go.RowKit Go.Sort Sx
set_option maxRecDepth 2000
abbrev retFl (x:List Pt × Int):DV:=.tup [fld x.1,.one (i64 x.2)]
def changeV (l:List Pt) (p:Pt):List Pt × Int:=if fchk l=0 then (if p.chk=0 then (if has l p.id then (l.set (pos l p.id) p,0) else ([],6)) else ([],8)) else ([],fchk l)
theorem fChange_fn (l:List Pt) (p:Pt):FnOK Tryz.prog 52 [fld l,p.dc] (retFl (changeV l p)):=by
 have H1:=fCheck_fn l
 have H2:=kCheck_fn p.id p.a p.b
 have H3:=fplace_fn l p.id
 unfold placeV at H3
 unfold changeV
 by_cases h1:fchk l=0
 ·obtain ⟨k1,k2,k3⟩:=fchk_ok h1
  rw [if_pos h1] at H3 ⊢
  rw [h1] at H1
  by_cases h2:p.chk=0
  ·rw [if_pos h2]
   unfold Pt.chk at h2
   rw [h2] at H2
   cases hh:has l p.id
   ·rw [hh,if_neg (by decide)] at H3
    refine fn_ok (by kernel_rfl) ty_ok Tryz.func52 rfl (fun _ _=>Tryz.call52 _ _) rfl ?_
    intro hw
    clear hw
    exact zw
   ·rw [hh,if_pos rfl] at H3
    obtain ⟨hlt,_⟩:=(has_pos k3).1 hh
    have hel:=pts_get hlt
    have H4:=clonePt_own (l.map Pt.c) (by simp;omega)
    rw [if_pos rfl]
    have hset:(l.map Pt.c).set ((pos l p.id:Nat):Int).toNat p.c=(l.set (pos l p.id) p).map Pt.c:=by rw [Int.toNat_natCast,List.map_set]
    refine fn_ok (by kernel_rfl) (ty_okK [36] [] [] []) Tryz.func52 rfl (fun _ _=>Tryz.call52 _ _) rfl ?_
    intro hw
    clear hw
    repeat' ((conv=>whnf);first|(with_reducible first|refine br_t ?_|refine br_f ?_|refine za ?_|refine zg ?_|refine zo ?_)|rw [List.length_map]|refine zp ?_|refine zq ?_|(with_reducible first|refine bc (fun h => ?_) (fun h => ?_)|refine zt ?_|refine zf ?_|refine br_i (fun h => ?_) (fun h => ?_))|refine zg ?_|refine zi ?_|refine zb ?_|refine zl ?_)
    all_goals conv=>whnf
    all_goals exact congrArg (fun x=>DV.tup [.agg [.list 3 x],.one (i64 0)]) hset
  ·rw [if_neg h2]
   have h8:cpt p.id p.a p.b=8:=(cpt_08 p.id p.a p.b).resolve_left h2
   rw [h8] at H2
   refine fn_ok (by kernel_rfl) ty_ok Tryz.func52 rfl (fun _ _=>Tryz.call52 _ _) rfl ?_
   intro hw
   clear hw
   exact zw
 ·rw [if_neg h1]
  generalize fchk l=z at *
  refine fn_ok (by kernel_rfl) ty_ok Tryz.func52 rfl (fun _ _=>Tryz.call52 _ _) rfl ?_
  intro hw
  clear hw
  exact zw
theorem rfChange_fn (l:List Pt) (p:Pt):FnOK Tryz.prog 99 [fld l,p.dc] (retFl (changeV l p)):=by
 have H1:=rfCheck_fn l
 have H2:=kkCheck_fn p.id p.a p.b
 have H3:=rfAt_fn l p.id
 unfold changeV
 by_cases h1:fchk l=0
 ·obtain ⟨k1,k2,k3⟩:=fchk_ok h1
  rw [if_pos h1]
  rw [h1] at H1
  rw [at1_has k3] at H3
  by_cases h2:p.chk=0
  ·rw [if_pos h2]
   unfold Pt.chk at h2
   rw [h2] at H2
   cases hh:has l p.id
   ·rw [hh,if_neg (by decide)] at H3
    refine fn_ok (by kernel_rfl) ty_ok Tryz.func99 rfl (fun _ _=>Tryz.call99 _ _) rfl ?_
    intro hw
    clear hw
    exact zw
   ·rw [hh,if_pos rfl] at H3
    obtain ⟨hlt,_⟩:=(has_pos k3).1 hh
    have hel:=pts_get hlt
    have H4:=rfTwin_own l (by omega)
    rw [if_pos rfl]
    have hset:(l.map Pt.c).set ((pos l p.id:Nat):Int).toNat p.c=(l.set (pos l p.id) p).map Pt.c:=by rw [Int.toNat_natCast,List.map_set]
    refine fn_ok (by kernel_rfl) (ty_okK [27] [] [] []) Tryz.func99 rfl (fun _ _=>Tryz.call99 _ _) rfl ?_
    intro hw
    clear hw
    repeat' ((conv=>whnf);first|(with_reducible first|refine br_t ?_|refine br_f ?_|refine za ?_|refine zg ?_|refine zo ?_)|rw [List.length_map]|refine zp ?_|refine zq ?_|(with_reducible first|refine bc (fun h => ?_) (fun h => ?_)|refine zt ?_|refine zf ?_|refine br_i (fun h => ?_) (fun h => ?_))|refine zg ?_|refine zi ?_|refine zb ?_|refine zl ?_)
    all_goals conv=>whnf
    all_goals exact congrArg (fun x=>DV.tup [.agg [.list 3 x],.one (i64 0)]) hset
  ·rw [if_neg h2]
   have h8:cpt p.id p.a p.b=8:=(cpt_08 p.id p.a p.b).resolve_left h2
   rw [h8] at H2
   refine fn_ok (by kernel_rfl) ty_ok Tryz.func99 rfl (fun _ _=>Tryz.call99 _ _) rfl ?_
   intro hw
   clear hw
   exact zw
 ·rw [if_neg h1]
  generalize fchk l=z at *
  refine fn_ok (by kernel_rfl) ty_ok Tryz.func99 rfl (fun _ _=>Tryz.call99 _ _) rfl ?_
  intro hw
  clear hw
  exact zw
def without (l:List Pt) (id:Int):List Pt:=l.filter fun p=>decide (p.id≠id)
theorem rfWithout_fn (l:List Pt) (id:Int) (hl:l.length≤1000000):FnOK Tryz.prog 136 [fld l,.one (i64 id)] (.c (fld (without l id))):=by
 refine fn_ok (by kernel_rfl) (ty_okK [30] [] [] []) Tryz.func136 rfl (fun _ _=>Tryz.call136 _ _) rfl ?_
 intro hw
 clear hw
 repeat' ((conv=>whnf);first|(with_reducible first|refine br_t ?_|refine br_f ?_|refine za ?_|refine zg ?_|refine zo ?_)|rw [List.length_map]|refine zp ?_|refine zq ?_|(with_reducible first|refine bc (fun h => ?_) (fun h => ?_)|refine zt ?_|refine zf ?_|refine br_i (fun h => ?_) (fun h => ?_))|refine zg ?_|refine zi ?_|refine zb ?_|refine zl ?_)
 refine loop_nameH 5 0 100 rfl rfl rfl ?_
 refine loop_J (by kernel_rfl) (ty_okK [30] [] [] []) (σ:=Nat) (fun i=>[(6,sV (.int .i64 i))]) (fun i=>[(5,.own [.osl 100 0]),(100,.row 3 ((without (l.take i) id).map Pt.c) 0)]) (fun i=>i≤l.length) (fun i=>l.length-i) 0 (Nat.zero_le _) ?_ ?_
 ·(conv=>whnf);exact zent
 intro i hi
 have hlen:(without (l.take i) id).length≤i:=by unfold without;refine Nat.le_trans (List.length_filter_le ..) ?_;simp;omega
 rcases Nat.lt_or_ge i l.length with hlt|hge
 ·have hel:=pts_get hlt
  have hN:without (l.take (i+1)) id=without (l.take i) id++if l[i].id≠id then [l[i]] else []:=by
   unfold without
   rw [List.take_succ_eq_append_getElem hlt,List.filter_append]
   by_cases h:l[i].id=id<;>simp [h]
  generalize without (l.take i) id=o at *
  have ho:(o.map Pt.c).length=o.length:=List.length_map ..
  by_cases hc:l[i].id=id
  ·rw [if_neg (by simp [hc]),List.append_nil] at hN
   repeat' ((conv=>whnf);first|(with_reducible first|refine br_t ?_|refine br_f ?_|refine za ?_|refine zg ?_|refine zo ?_)|rw [List.length_map]|refine zp ?_|refine zq ?_|(with_reducible first|refine bc (fun h => ?_) (fun h => ?_)|refine zt ?_|refine zf ?_|refine br_i (fun h => ?_) (fun h => ?_))|refine zg ?_|refine zi ?_|refine zb ?_|refine zl ?_)
   all_goals conv=>whnf
   refine ⟨i+1,by omega,?_,by omega⟩
   (conv=>whnf);refine ⟨by repeat' (first|with_reducible exact zE0|with_reducible refine zE1 ?_ ?_|rfl|assumption|(exact congrArg (fun x=>some (Blk.row 3 (List.map Pt.c x) 0)) hN.symm)|exact zi1|exact zb1),by repeat' (first|with_reducible exact zH0|with_reducible refine zH1 ?_ ?_|rfl|assumption|(exact congrArg (fun x=>some (Blk.row 3 (List.map Pt.c x) 0)) hN.symm)),rfl⟩
  ·rw [if_pos hc] at hN
   have ha:o.map Pt.c++[l[i].c]=(without (l.take (i+1)) id).map Pt.c:=by rw [hN,List.map_append];rfl
   repeat' ((conv=>whnf);first|(with_reducible first|refine br_t ?_|refine br_f ?_|refine za ?_|refine zg ?_|refine zo ?_)|rw [List.length_map]|refine zp ?_|refine zq ?_|(with_reducible first|refine bc (fun h => ?_) (fun h => ?_)|refine zt ?_|refine zf ?_|refine br_i (fun h => ?_) (fun h => ?_))|refine zg ?_|refine zi ?_|refine zb ?_|refine zl ?_)
   all_goals conv=>whnf
   refine ⟨i+1,by omega,?_,by omega⟩
   (conv=>whnf);refine ⟨by repeat' (first|with_reducible exact zE0|with_reducible refine zE1 ?_ ?_|rfl|assumption|(exact congrArg (fun x=>some (Blk.row 3 x 0)) ha)|exact zi1|exact zb1),by repeat' (first|with_reducible exact zH0|with_reducible refine zH1 ?_ ?_|rfl|assumption|(exact congrArg (fun x=>some (Blk.row 3 x 0)) ha)),rfl⟩
 ·rw [List.take_of_length_le hge]
  repeat' ((conv=>whnf);first|(with_reducible first|refine br_t ?_|refine br_f ?_|refine za ?_|refine zg ?_|refine zo ?_)|rw [List.length_map]|refine zp ?_|refine zq ?_|(with_reducible first|refine bc (fun h => ?_) (fun h => ?_)|refine zt ?_|refine zf ?_|refine br_i (fun h => ?_) (fun h => ?_))|refine zg ?_|refine zi ?_|refine zb ?_|refine zl ?_)
  all_goals conv=>whnf
  all_goals rfl
def takeV (l:List Pt) (id:Int):List Pt × Int:=if fchk l=0 then (if has l id then (without l id,0) else ([],6)) else ([],fchk l)
theorem rfTake_fn (l:List Pt) (id:Int):FnOK Tryz.prog 98 [fld l,.one (i64 id)] (retFl (takeV l id)):=by
 have H1:=rfCheck_fn l
 have H3:=rfAt_fn l id
 unfold takeV
 by_cases h1:fchk l=0
 ·obtain ⟨k1,k2,k3⟩:=fchk_ok h1
  rw [if_pos h1]
  rw [h1] at H1
  rw [at1_has k3] at H3
  have H4:=rfWithout_fn l id (by omega)
  cases hh:has l id
  ·rw [hh,if_neg (by decide)] at H3
   refine fn_ok (by kernel_rfl) ty_ok Tryz.func98 rfl (fun _ _=>Tryz.call98 _ _) rfl ?_
   intro hw
   clear hw
   exact zw
  ·rw [hh,if_pos rfl] at H3
   rw [if_pos rfl]
   refine fn_ok (by kernel_rfl) ty_ok Tryz.func98 rfl (fun _ _=>Tryz.call98 _ _) rfl ?_
   intro hw
   clear hw
   exact zw
 ·rw [if_neg h1]
  generalize fchk l=z at *
  refine fn_ok (by kernel_rfl) ty_ok Tryz.func98 rfl (fun _ _=>Tryz.call98 _ _) rfl ?_
  intro hw
  clear hw
  exact zw
end Go.Proofs.YtddbmpbihpkabaaGreat

namespace Go.Proofs.YtddbmpbihpkabaaGreat
open Go Go.RowKit Go.Sort Sx
set_option maxRecDepth 2000
def insP (l:List Pt) (p:Pt):List Pt:=l.take (pos l p.id)++p::l.drop (pos l p.id)
def putV (l:List Pt) (p:Pt):List Pt × Int:=if fchk l=0 then (if p.chk=0 then (if has l p.id then ([],14) else if l.length=64 then ([],18) else (insP l p,0)) else ([],8)) else ([],fchk l)
def outP (l:List Pt) (p:Pt) (k i:Nat):List Pt:=if i≤k then l.take i else l.take k++p::(l.take i).drop k
theorem outP_succ {l:List Pt} {p:Pt} {k i:Nat} (hk:k≤l.length) (hi:i<l.length) (hne:i≠k):outP l p k i++[l[i]]=outP l p k (i+1):=by
 unfold outP
 rcases Nat.lt_or_ge i k with h|h
 ·rw [if_pos (by omega),if_pos (by omega),List.take_succ_eq_append_getElem hi]
 ·rw [if_neg (by omega),if_neg (by omega),List.take_succ_eq_append_getElem hi,List.drop_append_of_le_length (by simp;omega)]
  simp
theorem outP_mid {l:List Pt} {p:Pt} {k:Nat} (hk:k<l.length):outP l p k k++[p]++[l[k]]=outP l p k (k+1):=by
 unfold outP
 rw [if_pos (Nat.le_refl _),if_neg (by omega),List.take_succ_eq_append_getElem hk,List.drop_append_of_le_length (by simp;omega)]
 simp
theorem outP_len (l:List Pt) (p:Pt) (k i:Nat):(outP l p k i).length≤l.length+1:=by
 unfold outP
 split
 ·simp;omega
 ·simp;omega
set_option maxHeartbeats 2000000 in
theorem rfPut_fn (l:List Pt) (p:Pt):FnOK Tryz.prog 97 [fld l,p.dc] (retFl (putV l p)):=by
 have H1:=rfCheck_fn l
 have H2:=kkCheck_fn p.id p.a p.b
 have H3:=rfAt_fn l p.id
 unfold putV
 by_cases h1:fchk l=0
 ·obtain ⟨k1,k2,k3⟩:=fchk_ok h1
  rw [if_pos h1]
  rw [h1] at H1
  rw [at1_has k3] at H3
  by_cases h2:p.chk=0
  ·rw [if_pos h2]
   unfold Pt.chk at h2
   rw [h2] at H2
   cases hh:has l p.id
   ·rw [hh,if_neg (by decide)] at H3
    rw [if_neg (by decide)]
    by_cases h64:l.length=64
    ·rw [if_pos h64]
     refine fn_ok (by kernel_rfl) ty_ok Tryz.func97 rfl (fun _ _=>Tryz.call97 _ _) rfl ?_
     intro hw
     clear hw
     repeat' ((conv=>whnf);first|(with_reducible first|refine br_t ?_|refine br_f ?_|refine za ?_|refine zg ?_)|rw [List.length_map]|refine zp ?_|refine zq ?_|(with_reducible first|refine bc (fun h => ?_) (fun h => ?_)|refine zt ?_|refine zf ?_|refine br_i (fun h => ?_) (fun h => ?_))|refine zg ?_|refine zi ?_|refine zb ?_)
     all_goals conv=>whnf
     all_goals rfl
    ·rw [if_neg h64]
     obtain ⟨s1,s2⟩:=pos_spec (id:=p.id) k3
     have hple:=pos_le l p.id
     have hgt:∀ j (h:j<l.length),pos l p.id≤j→p.id<l[j].id:=fun j h hj=>by
      have:=s2 j h hj
      have hne:l[j].id≠p.id:=fun e=>by
       have:has l p.id=true:=by unfold has;exact List.any_eq_true.2 ⟨_,List.getElem_mem h,by simpa using e⟩
       rw [hh] at this;cases this
      omega
     unfold insP
     generalize pos l p.id=k at *
     have hl:=outP_len l p k
     refine fn_ok (by kernel_rfl) (ty_okK [55,65,73] [] [] []) Tryz.func97 rfl (fun _ _=>Tryz.call97 _ _) rfl ?_
     intro hw
     clear hw
     repeat' ((conv=>whnf);first|(with_reducible first|refine br_t ?_|refine br_f ?_|refine za ?_|refine zg ?_|refine zo ?_)|rw [List.length_map]|refine zp ?_|refine zq ?_|(with_reducible first|refine bc (fun h => ?_) (fun h => ?_)|refine zt ?_|refine zf ?_|refine br_i (fun h => ?_) (fun h => ?_))|refine zg ?_|refine zi ?_|refine zb ?_|refine zl ?_)
     refine loop_nameH 7 0 100 rfl rfl rfl ?_
     refine loop_J (by kernel_rfl) (ty_okK [55,65,73] [] [] []) (σ:=Nat) (fun i=>[(9,sV (.int .i64 i)),(8,sV (.bool (decide (k<i))))]) (fun i=>[(7,.own [.osl 100 0]),(100,.row 3 ((outP l p k i).map Pt.c) 0)]) (fun i=>i≤l.length) (fun i=>l.length-i) 0 (Nat.zero_le _) ?_ ?_
     ·(conv=>whnf);refine ⟨by repeat' (first|with_reducible exact zE0|with_reducible refine zE1 ?_ ?_|rfl|assumption|(first|exact congrArg (fun x=>some (sV (.bool x))) (decide_eq_false (Nat.not_lt_zero _)).symm|(simp [outP];done)|(unfold outP;rw [if_pos (Nat.zero_le _)];rfl))|exact zi1|exact zb1),by repeat' (first|with_reducible exact zH0|with_reducible refine zH1 ?_ ?_|rfl|assumption|(first|exact congrArg (fun x=>some (sV (.bool x))) (decide_eq_false (Nat.not_lt_zero _)).symm|(simp [outP];done)|(unfold outP;rw [if_pos (Nat.zero_le _)];rfl))),rfl⟩
     intro i hi
     have hli:=hl i
     rcases Nat.lt_or_ge i l.length with hlt|hge
     ·have hel:=pts_get hlt
      have hoi:((outP l p k i).map Pt.c).length=(outP l p k i).length:=List.length_map ..
      rcases Nat.lt_trichotomy i k with h|h|h
      ·have hs:=outP_succ (p:=p) hple hlt (by omega)
       have hid:=s1 i hlt h
       have ha:(outP l p k i).map Pt.c++[l[i].c]=(outP l p k (i+1)).map Pt.c:=by rw [← hs,List.map_append];rfl
       rw [show decide (k<i)=false from decide_eq_false (by omega)]
       repeat' ((conv=>whnf);first|(with_reducible first|refine br_t ?_|refine br_f ?_|refine za ?_|refine zg ?_|refine zo ?_)|rw [List.length_map]|refine zp ?_|refine zq ?_|(with_reducible first|refine bc (fun h => ?_) (fun h => ?_)|refine zt ?_|refine zf ?_|refine br_i (fun h => ?_) (fun h => ?_))|refine zg ?_|refine zi ?_|refine zb ?_|refine zl ?_)
       all_goals conv=>whnf
       refine ⟨i+1,by omega,?_,by omega⟩
       (conv=>whnf);refine ⟨by repeat' (first|with_reducible exact zE0|with_reducible refine zE1 ?_ ?_|rfl|assumption|(first|exact congrArg (fun x=>some (Blk.row 3 x 0)) ha|exact congrArg (fun x=>some (sV (.bool x))) (decide_eq_false (by omega)).symm)|exact zi1|exact zb1),by repeat' (first|with_reducible exact zH0|with_reducible refine zH1 ?_ ?_|rfl|assumption|(first|exact congrArg (fun x=>some (Blk.row 3 x 0)) ha|exact congrArg (fun x=>some (sV (.bool x))) (decide_eq_false (by omega)).symm)),rfl⟩
      ·subst h
       have hs:=outP_mid (p:=p) hlt
       have hid:=hgt i hlt (Nat.le_refl _)
       have ha:(outP l p i i).map Pt.c++[p.c]++[l[i].c]=(outP l p i (i+1)).map Pt.c:=by rw [← hs,List.map_append,List.map_append];rfl
       rw [show decide (i<i)=false from decide_eq_false (by omega)]
       repeat' ((conv=>whnf);first|(with_reducible first|refine br_t ?_|refine br_f ?_|refine za ?_|refine zg ?_|refine zo ?_)|rw [List.length_map]|refine zp ?_|refine zq ?_|(with_reducible first|refine bc (fun h => ?_) (fun h => ?_)|refine zt ?_|refine zf ?_|refine br_i (fun h => ?_) (fun h => ?_))|refine zg ?_|refine zi ?_|refine zb ?_|refine zl ?_)
       all_goals conv=>whnf
       refine ⟨i+1,by omega,?_,by omega⟩
       (conv=>whnf);refine ⟨by repeat' (first|with_reducible exact zE0|with_reducible refine zE1 ?_ ?_|rfl|assumption|(first|exact congrArg (fun x=>some (Blk.row 3 x 0)) ha|exact congrArg (fun x=>some (sV (.bool x))) (decide_eq_true (by omega)).symm)|exact zi1|exact zb1),by repeat' (first|with_reducible exact zH0|with_reducible refine zH1 ?_ ?_|rfl|assumption|(first|exact congrArg (fun x=>some (Blk.row 3 x 0)) ha|exact congrArg (fun x=>some (sV (.bool x))) (decide_eq_true (by omega)).symm)),rfl⟩
      ·have hs:=outP_succ (p:=p) hple hlt (by omega)
       have ha:(outP l p k i).map Pt.c++[l[i].c]=(outP l p k (i+1)).map Pt.c:=by rw [← hs,List.map_append];rfl
       rw [show decide (k<i)=true from decide_eq_true (by omega)]
       repeat' ((conv=>whnf);first|(with_reducible first|refine br_t ?_|refine br_f ?_|refine za ?_|refine zg ?_|refine zo ?_)|rw [List.length_map]|refine zp ?_|refine zq ?_|(with_reducible first|refine bc (fun h => ?_) (fun h => ?_)|refine zt ?_|refine zf ?_|refine br_i (fun h => ?_) (fun h => ?_))|refine zg ?_|refine zi ?_|refine zb ?_|refine zl ?_)
       all_goals conv=>whnf
       refine ⟨i+1,by omega,?_,by omega⟩
       (conv=>whnf);refine ⟨by repeat' (first|with_reducible exact zE0|with_reducible refine zE1 ?_ ?_|rfl|assumption|(first|exact congrArg (fun x=>some (Blk.row 3 x 0)) ha|exact congrArg (fun x=>some (sV (.bool x))) (decide_eq_true (by omega)).symm)|exact zi1|exact zb1),by repeat' (first|with_reducible exact zH0|with_reducible refine zH1 ?_ ?_|rfl|assumption|(first|exact congrArg (fun x=>some (Blk.row 3 x 0)) ha|exact congrArg (fun x=>some (sV (.bool x))) (decide_eq_true (by omega)).symm)),rfl⟩
     ·obtain rfl:i=l.length:=by omega
      have hoi:((outP l p k l.length).map Pt.c).length=(outP l p k l.length).length:=List.length_map ..
      by_cases hk:k<l.length
      ·have e:outP l p k l.length=l.take k++p::l.drop k:=by unfold outP;rw [if_neg (by omega),List.take_length]
       rw [decide_eq_true hk,e]
       repeat' ((conv=>whnf);first|(with_reducible first|refine br_t ?_|refine br_f ?_|refine za ?_|refine zg ?_|refine zo ?_)|rw [List.length_map]|refine zp ?_|refine zq ?_|(with_reducible first|refine bc (fun h => ?_) (fun h => ?_)|refine zt ?_|refine zf ?_|refine br_i (fun h => ?_) (fun h => ?_))|refine zg ?_|refine zi ?_|refine zb ?_|refine zl ?_)
       all_goals conv=>whnf
       all_goals rfl
      ·have hke:k=l.length:=by omega
       have e:(outP l p k l.length).map Pt.c++[p.c]=(l.take k++p::l.drop k).map Pt.c:=by unfold outP;rw [if_pos (by omega),hke];simp
       rw [decide_eq_false hk]
       repeat' ((conv=>whnf);first|(with_reducible first|refine br_t ?_|refine br_f ?_|refine za ?_|refine zg ?_|refine zo ?_)|rw [List.length_map]|refine zp ?_|refine zq ?_|(with_reducible first|refine bc (fun h => ?_) (fun h => ?_)|refine zt ?_|refine zf ?_|refine br_i (fun h => ?_) (fun h => ?_))|refine zg ?_|refine zi ?_|refine zb ?_|refine zl ?_)
       all_goals conv=>whnf
       all_goals exact congrArg (fun x=>DV.tup [.agg [.list 3 x],.one (i64 0)]) e
   ·rw [hh,if_pos rfl] at H3
    rw [if_pos rfl]
    refine fn_ok (by kernel_rfl) ty_ok Tryz.func97 rfl (fun _ _=>Tryz.call97 _ _) rfl ?_
    intro hw
    clear hw
    exact zw
  ·rw [if_neg h2]
   have h8:cpt p.id p.a p.b=8:=(cpt_08 p.id p.a p.b).resolve_left h2
   rw [h8] at H2
   refine fn_ok (by kernel_rfl) ty_ok Tryz.func97 rfl (fun _ _=>Tryz.call97 _ _) rfl ?_
   intro hw
   clear hw
   exact zw
 ·rw [if_neg h1]
  generalize fchk l=z at *
  refine fn_ok (by kernel_rfl) ty_ok Tryz.func97 rfl (fun _ _=>Tryz.call97 _ _) rfl ?_
  intro hw
  clear hw
  exact zw
end Go.Proofs.YtddbmpbihpkabaaGreat

namespace Go.Proofs.YtddbmpbihpkabaaGreat
open Go Go.RowKit Go.Sort Sx
set_option maxRecDepth 2000
structure Mt where
 n:Int
 d:Int
 i:Int
 j:Int
 deriving DecidableEq,Inhabited
def Mt.c (m:Mt):List D:=[i64 m.n,i64 m.d,i64 m.i,i64 m.j]
abbrev Mt.dc (m:Mt):DC:=.agg [i64 m.n,i64 m.d,i64 m.i,i64 m.j]
abbrev mts (l:List Mt):D:=.list 4 (l.map Mt.c)
theorem mlater_fnd {p q r t:Int} (h1:chk p q=0) (h2:chk r t=0):FnD Tryz.prog 113 (rat2 p q r t) (ret1 (cmpN (p*t) (r*q))):=by
 refine fn_okD (by kernel_rfl) ty_okD rfl Tryz.func113 rfl (fun _ _=>Tryz.call113 _ _) rfl ?_
 intro hw
 clear hw
 have H:=cmp_fnd p q r t
 unfold cmpV bth at H
 rw [if_pos (by rw [h1,if_pos rfl,h2])] at H
 simp only [ret2] at H
 generalize cmpN (p*t) (r*q)=z at *
 repeat' ((conv=>whnf);first|(with_reducible first|refine br_t ?_|refine br_f ?_|refine zd ?_|refine za ?_|refine zg ?_)|refine zp ?_|refine zq ?_|(with_reducible first|refine bc (fun h => ?_) (fun h => ?_)|refine zt ?_|refine zf ?_|refine br_i (fun h => ?_) (fun h => ?_))|refine zg ?_|refine zi ?_|refine zb ?_)
 all_goals conv=>whnf
 all_goals rfl
def orL:List Int→Int
 | []=>0
 | x::l=>if x=0 then orL l else x
theorem orL_drop {l:List Int}:∀ {i:Nat},i≤l.length→(∀ k (h:k<l.length),k<i→l[k]=0)→orL l=orL (l.drop i)
 | 0,_,_=>rfl
 | i+1,hi,h=>by
  rw [orL_drop (i:=i) (by omega) (fun k hk hki=>h k hk (by omega)),List.drop_eq_getElem_cons (show i<l.length by omega),orL,if_pos (h i (by omega) (by omega))]
theorem cmporL_fnd (l:List Int) (hl:l.length≤1000000):FnD Tryz.prog 147 [.one (ints l)] (ret1 (orL l)):=by
 refine fn_okD (by kernel_rfl) ty_okD rfl Tryz.func147 rfl (fun _ _=>Tryz.call147 _ _) rfl ?_
 intro hw
 clear hw
 have hll:(l.map fun i=>[i64 i]).length=l.length:=List.length_map ..
 repeat' ((conv=>whnf);first|(with_reducible first|refine br_t ?_|refine br_f ?_|refine zd ?_|refine za ?_|refine zg ?_)|refine zp ?_|refine zq ?_|(with_reducible first|refine bc (fun h => ?_) (fun h => ?_)|refine zt ?_|refine zf ?_|refine br_i (fun h => ?_) (fun h => ?_))|refine zg ?_|refine zi ?_|refine zb ?_)
 refine loop_J (by kernel_rfl) ty_okD (σ:=Nat) (fun i=>[(8,sV (.int .i64 i))]) (fun _=>[]) (fun i=>i≤l.length∧∀ k (h:k<l.length),k<i→l[k]=0) (fun i=>l.length-i) 0 ⟨Nat.zero_le _,fun k _ h=>absurd h (Nat.not_lt_zero _)⟩ ?_ ?_
 ·(conv=>whnf);exact zent
 rintro i ⟨hi,hI⟩
 rcases Nat.lt_or_ge i l.length with hlt|hge
 ·have hel:=ints_get hlt
  by_cases hc:l[i]=0
  ·repeat' ((conv=>whnf);first|(with_reducible first|refine br_t ?_|refine br_f ?_|refine zd ?_|refine za ?_|refine zg ?_)|refine zp ?_|refine zq ?_|(with_reducible first|refine bc (fun h => ?_) (fun h => ?_)|refine zt ?_|refine zf ?_|refine br_i (fun h => ?_) (fun h => ?_))|refine zg ?_|refine zi ?_|refine zb ?_)
   all_goals conv=>whnf
   refine ⟨i+1,⟨by omega,fun k hk hki => ?_⟩,?_,by omega⟩
   ·rcases Nat.lt_or_ge k i with h|h
    ·exact hI k hk h
    ·have:k=i:=by omega
     subst this;exact hc
   ·(conv=>whnf);exact zent
  ·rw [orL_drop hi hI,List.drop_eq_getElem_cons hlt,orL,if_neg hc]
   repeat' ((conv=>whnf);first|(with_reducible first|refine br_t ?_|refine br_f ?_|refine zd ?_|refine za ?_|refine zg ?_)|refine zp ?_|refine zq ?_|(with_reducible first|refine bc (fun h => ?_) (fun h => ?_)|refine zt ?_|refine zf ?_|refine br_i (fun h => ?_) (fun h => ?_))|refine zg ?_|refine zi ?_|refine zb ?_)
   all_goals conv=>whnf
   all_goals rfl
 ·rw [orL_drop hi hI,List.drop_eq_nil_of_le hge,orL]
  repeat' ((conv=>whnf);first|(with_reducible first|refine br_t ?_|refine br_f ?_|refine zd ?_|refine za ?_|refine zg ?_)|refine zp ?_|refine zq ?_|(with_reducible first|refine bc (fun h => ?_) (fun h => ?_)|refine zt ?_|refine zf ?_|refine br_i (fun h => ?_) (fun h => ?_))|refine zg ?_|refine zi ?_|refine zb ?_)
  all_goals conv=>whnf
  all_goals rfl
def cfM (a b:Mt):Int:=orL [cmpN (a.n*b.d) (b.n*a.d),cmpN a.i b.i,cmpN a.j b.j]
theorem morder_fnd {a b:Mt} (h1:chk a.n a.d=0) (h2:chk b.n b.d=0):FnD Tryz.prog 117 [a.dc,b.dc] (ret1 (cfM a b)):=by
 have H1:=mlater_fnd h1 h2
 have H2:=cmpint_fnd a.i b.i
 have H3:=cmpint_fnd a.j b.j
 unfold cfM
 have H4:=cmporL_fnd [cmpN (a.n*b.d) (b.n*a.d),cmpN a.i b.i,cmpN a.j b.j] (by simp)
 generalize orL [cmpN (a.n*b.d) (b.n*a.d),cmpN a.i b.i,cmpN a.j b.j]=z at *
 generalize cmpN (a.n*b.d) (b.n*a.d)=x at *
 generalize cmpN a.i b.i=y at *
 generalize cmpN a.j b.j=u at *
 change FnD _ _ [.one (.list 1 [[i64 x],[i64 y],[i64 u]])] _ at H4
 refine fn_okD (by kernel_rfl) ty_okD rfl Tryz.func117 rfl (fun _ _=>Tryz.call117 _ _) rfl ?_
 intro hw
 clear hw
 repeat' ((conv=>whnf);first|(with_reducible first|refine br_t ?_|refine br_f ?_|refine zd ?_|refine za ?_|refine zg ?_)|refine zp ?_|refine zq ?_|(with_reducible first|refine bc (fun h => ?_) (fun h => ?_)|refine zt ?_|refine zf ?_|refine br_i (fun h => ?_) (fun h => ?_))|refine zg ?_|refine zi ?_|refine zb ?_)
 all_goals conv=>whnf
 all_goals rfl
end Go.Proofs.YtddbmpbihpkabaaGreat

namespace Go.Proofs.YtddbmpbihpkabaaGreat
open Go Go.RowKit Go.Sort Sx
def Mt.ok (m:Mt):Prop:=chk m.n m.d=0∧(-9223372036854775808≤m.n∧m.n≤9223372036854775807)∧m.d≤9223372036854775807∧(-9223372036854775808≤m.i∧m.i≤9223372036854775807) ∧ -9223372036854775808≤m.j∧m.j≤9223372036854775807
def mlt (a b:Mt):Prop:=qv a.n a.d<qv b.n b.d∨qv a.n a.d=qv b.n b.d∧(a.i<b.i∨a.i=b.i∧a.j<b.j)
instance (a b:Mt):Decidable (mlt a b):=by unfold mlt;infer_instance
def msrt (l:List Mt):List Mt:=l.mergeSort fun x y => !decide (mlt y x)
theorem qv_ltM {p q r t:Int} (h1:chk p q=0) (h2:chk r t=0):qv p q<qv r t↔p*t<r*q:=by
 have e1:=Rat.lt_iff (qv p q) (qv r t)
 rw [qv_num h1,qv_num h2,qv_den h1,qv_den h2] at e1
 exact e1
theorem lt_cfM {a b:Mt} (h1:a.ok) (h2:b.ok):ltOf cfM a b=decide (mlt a b):=by
 have q1:=qv_ltM h1.1 h2.1
 have q2:=qv_ltM h2.1 h1.1
 unfold ltOf
 rw [decide_eq_decide]
 unfold cfM orL orL orL orL mlt cmpN
 generalize qv a.n a.d=x at *
 generalize qv b.n b.d=y at *
 generalize a.n*b.d=u at *
 generalize b.n*a.d=v at *
 have tri:(u<v∧x<y)∨(v<u∧y<x)∨(u=v∧x=y):=by
  rcases Int.lt_trichotomy u v with h|h|h
  ·exact .inl ⟨h,q1.2 h⟩
  ·refine .inr (.inr ⟨h,?_⟩)
   have k1:¬ x<y:=fun k=>by have:=q1.1 k;omega
   have k2:¬ y<x:=fun k=>by have:=q2.1 k;omega
   exact Rat.le_antisymm (Rat.not_lt.1 k2) (Rat.not_lt.1 k1)
  ·exact .inr (.inl ⟨h,q2.2 h⟩)
 rcases tri with ⟨h,k⟩|⟨h,k⟩|⟨h,k⟩
 ·simp [h,k]
 ·have k1:¬ x<y:=fun e=>by have:=q1.1 e;omega
  have k2:x≠y:=fun e=>by rw [e] at k;exact absurd k Rat.lt_irrefl
  have k3:¬ u<v:=by omega
  simp [h,k1,k2,k3]
 ·subst h k
  simp [Rat.lt_irrefl]
  (repeat' split)<;>omega
theorem mlt_irrefl (a:Mt):¬ mlt a a:=by
 unfold mlt
 simp [Rat.lt_irrefl]
theorem mlt_trans {a b c:Mt} (h1:mlt a b) (h2:mlt b c):mlt a c:=by
 unfold mlt at *
 rcases h1 with h1|⟨e1,h1⟩<;>rcases h2 with h2|⟨e2,h2⟩
 ·exact .inl (Std.lt_trans h1 h2)
 ·exact .inl (by rw [← e2];exact h1)
 ·exact .inl (by rw [e1];exact h2)
 ·exact .inr ⟨e1.trans e2,by omega⟩
theorem mlt_tri (a b:Mt):mlt a b∨mlt b a∨(qv a.n a.d=qv b.n b.d∧a.i=b.i∧a.j=b.j):=by
 unfold mlt
 by_cases h1:qv a.n a.d<qv b.n b.d
 ·exact .inl (.inl h1)
 ·by_cases h2:qv b.n b.d<qv a.n a.d
  ·exact .inr (.inl (.inl h2))
  ·have e:qv a.n a.d=qv b.n b.d:=Rat.le_antisymm (Rat.not_lt.1 h2) (Rat.not_lt.1 h1)
   rw [e]
   simp only [true_and]
   have:=Rat.lt_irrefl (a:=qv b.n b.d)
   simp only [this,false_or]
   omega
theorem mlt_eq {a b:Mt} (h1:chk a.n a.d=0) (h2:chk b.n b.d=0) (k1:¬ mlt a b) (k2:¬ mlt b a):a=b:=by
 rcases mlt_tri a b with h|h|⟨h,hi,hj⟩
 ·exact absurd h k1
 ·exact absurd h k2
 ·obtain ⟨e1,e2⟩:=(qv_inj h1 h2).1 h
  cases a;cases b
  simp_all
theorem sortMt_mu {l:List Mt} (hl:∀ m∈l,m.ok) (hsz:l.length≤1000000):FnMu Tryz.prog 116 4 (l.map Mt.c) [.one (.clo 117 [])] ((msrt l).map Mt.c):=by
 have hnil:∀ (m:Mt),m.ok→FnMu Tryz.prog 116 4 [] [.one (.clo 117 [])] []:=fun m hm=>by
  have:=sort_mu (P:=Tryz.prog) (ρ:=Tryz.sortMt_ren) (α:=Unit) (k:=4) Tryz.sortMt (by decide) Tryz.isAgg56 Tryz.sizeOf56 (fun _=>[.int .i64 0,.int .i64 1,.int .i64 0,.int .i64 0]) (fun _=>rfl) (fun _ v hv=>by simp at hv;rcases hv with rfl|rfl|rfl<;>exact ⟨rfl,WD_v.1 (wd_i64.2 (by omega))⟩) (fun _ _=>0)
   ⟨fun _=>rfl,fun _ _ _ h=>by simp [ltOf] at h,fun _ _ _ _ _=>rfl⟩ (fun _ _ _ _=>rfl) (g:=117) (caps:=[]) (fun _ _=>Tryz.call117 _ _) (fun _ _=>Tryz.call116 _ _)
   (fun _ _=>by
    have:=morder_fnd (a:=⟨0,1,0,0⟩) (b:=⟨0,1,0,0⟩) (by decide) (by decide)
    exact this) [] (by decide)
  simp only [List.map_nil,List.mergeSort_nil] at this
  exact this
 cases l with
 | nil =>
  rw [show msrt []=[] by simp [msrt]]
  exact hnil ⟨0,1,0,0⟩ ⟨by decide,by decide,by decide,by decide,by decide⟩
 | cons y ys =>
  generalize hd:y::ys=l at *
  have:Inhabited {p:Mt // p∈l}:=⟨⟨y,by rw [← hd];exact List.mem_cons_self ..⟩⟩
  have key:=sort_mu (P:=Tryz.prog) (ρ:=Tryz.sortMt_ren) (α:={p:Mt // p∈l}) (k:=4) Tryz.sortMt (by decide) Tryz.isAgg56 Tryz.sizeOf56 (fun p=>[.int .i64 p.1.n,.int .i64 p.1.d,.int .i64 p.1.i,.int .i64 p.1.j]) (fun _=>rfl) (fun p v hv=>by
    obtain ⟨hc,h2,h3,h4,h5⟩:=hl p.1 p.2
    have h6:=((chk_iff _ _).1 hc).1
    simp at hv
    rcases hv with rfl|rfl|rfl|rfl
    all_goals exact ⟨rfl,WD_v.1 (wd_i64.2 (by omega))⟩) (fun p q=>cfM p.1 q.1)
   ⟨fun p => ?_,fun p q r h1 h2 => ?_,fun p q r h1 h2 => ?_⟩ (fun p q h1 h2 => ?_) (g:=117) (caps:=[]) (fun _ _=>Tryz.call117 _ _) (fun _ _=>Tryz.call116 _ _)
   (fun p q=>morder_fnd (hl p.1 p.2).1 (hl q.1 q.2).1) l.attach (by simp;omega)
  ·have e1:(l.attach.map fun p=>([.int .i64 p.1.n,.int .i64 p.1.d,.int .i64 p.1.i,.int .i64 p.1.j]:List Value).map D.v)=l.map Mt.c:=by
    rw [show (fun p:{p:Mt // p∈l}=>([.int .i64 p.1.n,.int .i64 p.1.d,.int .i64 p.1.i,.int .i64 p.1.j]:List Value).map D.v)=Mt.c ∘ Subtype.val from rfl,← List.map_map,List.attach_map_subtype_val]
   have e2:((l.attach.mergeSort fun x y => !(ltOf fun p q:{p:Mt // p∈l}=>cfM p.1 q.1) y x).map fun p=>([.int .i64 p.1.n,.int .i64 p.1.d,.int .i64 p.1.i,.int .i64 p.1.j]:List Value).map D.v)=(msrt l).map Mt.c:=by
    rw [show (fun p:{p:Mt // p∈l}=>([.int .i64 p.1.n,.int .i64 p.1.d,.int .i64 p.1.i,.int .i64 p.1.j]:List Value).map D.v)=Mt.c ∘ Subtype.val from rfl,← List.map_map]
    rw [List.map_mergeSort (s:=fun x y => !decide (mlt y x)) (fun a _ b _=>by
     have:=lt_cfM (hl b.1 b.2) (hl a.1 a.2)
     unfold ltOf at this ⊢
     rw [this]),List.attach_map_subtype_val]
    rfl
   rw [e1,e2] at key
   exact key
  ·exact (lt_cfM (hl p.1 p.2) (hl p.1 p.2)).trans (decide_eq_false (mlt_irrefl _))
  ·have k1:=of_decide_eq_true ((lt_cfM (hl p.1 p.2) (hl q.1 q.2)).symm.trans h1)
   have k2:=of_decide_eq_true ((lt_cfM (hl q.1 q.2) (hl r.1 r.2)).symm.trans h2)
   exact (lt_cfM (hl p.1 p.2) (hl r.1 r.2)).trans (decide_eq_true (mlt_trans k1 k2))
  ·have k1:=of_decide_eq_false ((lt_cfM (hl p.1 p.2) (hl q.1 q.2)).symm.trans h1)
   have k2:=of_decide_eq_false ((lt_cfM (hl q.1 q.2) (hl r.1 r.2)).symm.trans h2)
   refine (lt_cfM (hl p.1 p.2) (hl r.1 r.2)).trans (decide_eq_false fun k3 => ?_)
   rcases mlt_tri q.1 p.1 with h|h|h
   ·exact k2 (mlt_trans h k3)
   ·exact k1 h
   ·exact k2 (by rw [mlt_eq (hl q.1 q.2).1 (hl p.1 p.2).1 (fun h'=>k2 (mlt_trans h' k3)) k1];exact k3)
  ·have k1:=of_decide_eq_false ((lt_cfM (hl p.1 p.2) (hl q.1 q.2)).symm.trans h1)
   have k2:=of_decide_eq_false ((lt_cfM (hl q.1 q.2) (hl p.1 p.2)).symm.trans h2)
   exact Subtype.ext (mlt_eq (hl p.1 p.2).1 (hl q.1 q.2).1 k1 k2)
end Go.Proofs.YtddbmpbihpkabaaGreat

namespace Go.Proofs.YtddbmpbihpkabaaGreat
open Go Go.RowKit Go.Sort Sx
set_option maxRecDepth 2000
theorem mts_get {l:List Mt} {i:Nat} (h:i<l.length):(l.map Mt.c)[((i:Nat):Int).toNat]? = some [i64 l[i].n,i64 l[i].d,i64 l[i].i,i64 l[i].j]:=by
 rw [Int.toNat_natCast,List.getElem?_map,List.getElem?_eq_getElem h];rfl
theorem mbehind1_fn (m:Mt) (n e:Int) (h1:chk m.n m.d=0) (h2:chk n e=0):FnOK Tryz.prog 119 [m.dc,rat n e] (ret1 (if n*m.d<m.n*e then 1 else -1)):=by
 have H:=(mlater_fnd h1 h2).ok
 by_cases h:n*m.d<m.n*e
 ·rw [if_pos h]
  have e1:cmpN (m.n*e) (n*m.d)=1:=by unfold cmpN;rw [if_neg (by omega),if_pos h]
  rw [e1] at H
  refine fn_ok (by kernel_rfl) ty_ok Tryz.func119 rfl (fun _ _=>Tryz.call119 _ _) rfl ?_
  intro hw
  clear hw h e1
  exact zw
 ·rw [if_neg h]
  have e1:cmpN (m.n*e) (n*m.d)≤0:=by unfold cmpN;split<;>(try split)<;>omega
  generalize cmpN (m.n*e) (n*m.d)=z at *
  refine fn_ok (by kernel_rfl) ty_ok Tryz.func119 rfl (fun _ _=>Tryz.call119 _ _) rfl ?_
  intro hw
  clear hw h
  exact zw
def bcnt:List Mt→Int→Int→Nat
 | [],_,_=>0
 | m::l,n,e=>if n*m.d<m.n*e then 0 else bcnt l n e+1
theorem bcnt_eq:∀ {l:List Mt} {n e:Int} {i:Nat},i≤l.length→(∀ k (h:k<l.length),k<i→l[k].n*e≤n*l[k].d)→(∀ k (h:k<l.length),i≤k→n*l[k].d<l[k].n*e)→bcnt l n e=i
 | [],n,e,i,hi,_,_=>by simp at hi;simp [bcnt,hi]
 | m::l,n,e,0,hi,h1,h2=>by
  have:=h2 0 (by simp) (Nat.le_refl _)
  simp at this
  rw [bcnt,if_pos this]
 | m::l,n,e,i+1,hi,h1,h2=>by
  have:=h1 0 (by simp) (by omega)
  simp at this
  rw [bcnt,if_neg (by omega),bcnt_eq (by simpa using hi) (fun k h hk=>h1 (k+1) (by simpa using h) (by omega)) (fun k h hk=>h2 (k+1) (by simpa using h) (by omega))]
structure Asc (l:List Mt):Prop where
 ok:∀ i (h:i<l.length),chk l[i].n l[i].d=0
 up:∀ j i (hj:j<l.length) (hij:i<j),qv l[i].n l[i].d≤qv l[j].n l[j].d
theorem bsMt_fn (l:List Mt) (n e:Int) (hs:Asc l) (ht:chk n e=0) (hl:l.length≤1000000):FnOK Tryz.prog 118 [.one (mts l),rat n e,.one (.clo 119 [])] (.tup [.one (i64 (bcnt l n e:Nat)),.one (bol false)]):=by
 refine fn_ok (by kernel_rfl) ty_ok Tryz.func118 rfl (fun _ _=>Tryz.call118 _ _) rfl ?_
 intro hw
 clear hw
 have hln:(l.map Mt.c).length=l.length:=List.length_map ..
 repeat' ((conv=>whnf);first|(with_reducible first|refine br_t ?_|refine br_f ?_|refine za ?_|refine zg ?_)|refine zp ?_|refine zq ?_|(with_reducible first|refine bc (fun h => ?_) (fun h => ?_)|refine zt ?_|refine zf ?_|refine br_i (fun h => ?_) (fun h => ?_))|refine zg ?_|refine zi ?_|refine zb ?_)
 refine loop_J (by kernel_rfl) ty_ok (σ:=Nat × Nat) (fun s=>[(9,sV (.int .i64 s.1)),(10,sV (.int .i64 s.2))]) (fun _=>[])
  (fun s=>s.1≤s.2∧s.2≤l.length∧(∀ k (h:k<l.length),k<s.1→l[k].n*e≤n*l[k].d)∧∀ k (h:k<l.length),s.2≤k→n*l[k].d<l[k].n*e) (fun s=>s.2-s.1) (0,l.length) ⟨by omega,by omega,fun k h hk=>absurd hk (Nat.not_lt_zero _),fun k h hk=>absurd h (by show ¬ k<l.length;exact Nat.not_lt.2 hk)⟩ ?_ ?_
 ·(conv=>whnf);exact zent
 rintro ⟨i,j⟩ ⟨h1,h2,h3,h4⟩
 simp only at h1 h2 h3 h4
 rcases Nat.lt_or_ge i j with hlt|hge
 ·have hm:(i+j) / 2<l.length:=by omega
  have hmid:=mid_eq i j (by omega)
  have hel:=mts_get hm
  have HC:=mbehind1_fn l[(i+j) / 2] n e (hs.ok _ hm) ht
  have q0:=qv_ltM ht (hs.ok _ hm)
  by_cases hc:n*l[(i+j) / 2].d<l[(i+j) / 2].n*e
  ·rw [if_pos hc] at HC
   have hN:∀ k (h:k<l.length),(i+j) / 2≤k→n*l[k].d<l[k].n*e:=fun k h hk=>by
    rcases Nat.lt_or_ge ((i+j) / 2) k with h5|h5
    ·exact (qv_ltM ht (hs.ok k h)).1 (Std.lt_of_lt_of_le (q0.2 hc) (hs.up k _ h h5))
    ·have:k=(i+j) / 2:=by omega
     subst this;exact hc
   clear hc q0
   repeat' ((conv=>whnf);first|(with_reducible first|refine br_t ?_|refine br_f ?_|refine za ?_|refine zg ?_)|rw [hmid]|refine zp ?_|refine zq ?_|(with_reducible first|refine bc (fun h => ?_) (fun h => ?_)|refine zt ?_|refine zf ?_|refine br_i (fun h => ?_) (fun h => ?_))|refine zg ?_|refine zi ?_|refine zb ?_)
   all_goals conv=>whnf
   refine ⟨(i,(i+j) / 2),⟨by show _≤_;omega,by show _≤_;omega,h3,hN⟩,?_,by show _-_<_-_;omega⟩
   (conv=>whnf);exact zent
  ·rw [if_neg hc] at HC
   have hN:∀ k (h:k<l.length),k<(i+j) / 2+1→l[k].n*e≤n*l[k].d:=fun k h hk=>by
    rcases Nat.lt_or_ge k ((i+j) / 2) with h5|h5
    ·have h6:=hs.up _ k hm h5
     have h7:¬ qv n e<qv l[k].n l[k].d:=fun h8=>hc (q0.1 (Std.lt_of_lt_of_le h8 h6))
     rw [qv_ltM ht (hs.ok k h)] at h7;omega
    ·have:k=(i+j) / 2:=by omega
     subst this;omega
   clear hc q0
   repeat' ((conv=>whnf);first|(with_reducible first|refine br_t ?_|refine br_f ?_|refine za ?_|refine zg ?_)|rw [hmid]|refine zp ?_|refine zq ?_|(with_reducible first|refine bc (fun h => ?_) (fun h => ?_)|refine zt ?_|refine zf ?_|refine br_i (fun h => ?_) (fun h => ?_))|refine zg ?_|refine zi ?_|refine zb ?_)
   all_goals conv=>whnf
   refine ⟨((i+j) / 2+1,j),⟨by show _≤_;omega,h2,hN,h4⟩,?_,by show _-_<_-_;omega⟩
   (conv=>whnf);exact zent
 ·have eij:i=j:=by omega
  subst eij
  have hp:=bcnt_eq h2 h3 h4
  rw [hp]
  rcases Nat.lt_or_ge i l.length with hlt|hge2
  ·have hel:=mts_get hlt
   have HC:=mbehind1_fn l[i] n e (hs.ok i hlt) ht
   rw [if_pos (h4 i hlt (Nat.le_refl _))] at HC
   clear h3 h4
   exact zw
  ·clear h3 h4
   exact zw
theorem mbehind_fn (l:List Mt) (n e:Int) (hs:Asc l) (ht:chk n e=0) (hl:l.length≤1000000):FnOK Tryz.prog 85 [.one (mts l),rat n e] (ret1 (bcnt l n e:Nat)):=by
 refine fn_ok (by kernel_rfl) ty_ok Tryz.func85 rfl (fun _ _=>Tryz.call85 _ _) rfl ?_
 intro hw
 clear hw
 have H:=bsMt_fn l n e hs ht hl
 exact zw
end Go.Proofs.YtddbmpbihpkabaaGreat

namespace Go.Proofs.YtddbmpbihpkabaaGreat
open Go Go.RowKit Go.Sort Sx
set_option maxRecDepth 2000
def mchk2 (l:List Pt) (n e r t:Int):Int:=if fchk l=0 then (if chk n e=0 then (if chk r t=0 then (if r*e<n*t then 2 else 0) else 8) else 8) else fchk l
theorem mcheck_fn (l:List Pt) (n e r t:Int):FnOK Tryz.prog 83 [fld l,.one (.list 2 [[i64 n,i64 e],[i64 r,i64 t]])] (ret1 (mchk2 l n e r t)):=by
 have H1:=fCheck_fn l
 have H2:=check_fn n e
 have H3:=check_fn r t
 have hel0:([[i64 n,i64 e],[i64 r,i64 t]]:List (List D))[((0:Nat):Int).toNat]? = some [i64 n,i64 e]:=rfl
 have hel1:([[i64 n,i64 e],[i64 r,i64 t]]:List (List D))[((1:Nat):Int).toNat]? = some [i64 r,i64 t]:=rfl
 have hlen:([[i64 n,i64 e],[i64 r,i64 t]]:List (List D)).length=2:=rfl
 unfold mchk2
 by_cases h1:fchk l=0
 ·rw [if_pos h1]
  rw [h1] at H1
  refine fn_ok (by kernel_rfl) ty_ok Tryz.func83 rfl (fun _ _=>Tryz.call83 _ _) rfl ?_
  intro hw
  clear hw
  repeat' ((conv=>whnf);first|(with_reducible first|refine br_t ?_|refine br_f ?_|refine za ?_|refine zg ?_)|refine zp ?_|refine zq ?_|(with_reducible first|refine bc (fun h => ?_) (fun h => ?_)|refine zt ?_|refine zf ?_|refine br_i (fun h => ?_) (fun h => ?_))|refine zg ?_|refine zi ?_|refine zb ?_)
  refine loop_J (by kernel_rfl) ty_ok (σ:=Nat) (fun i=>[(16,sV (.int .i64 i))]) (fun _=>[]) (fun i=>i=0∨(i=1∧chk n e=0)∨(i=2∧chk n e=0∧chk r t=0)) (fun i=>2-i) 0 (.inl rfl) ?_ ?_
  ·(conv=>whnf);exact zent
  intro i hi
  rcases hi with rfl|⟨rfl,h2⟩|⟨rfl,h2,h3⟩
  ·by_cases h2:chk n e=0
   ·rw [h2] at H2
    repeat' ((conv=>whnf);first|(with_reducible first|refine br_t ?_|refine br_f ?_|refine za ?_|refine zg ?_)|refine zp ?_|refine zq ?_|(with_reducible first|refine bc (fun h => ?_) (fun h => ?_)|refine zt ?_|refine zf ?_|refine br_i (fun h => ?_) (fun h => ?_))|refine zg ?_|refine zi ?_|refine zb ?_)
    all_goals conv=>whnf
    refine ⟨1,.inr (.inl ⟨rfl,h2⟩),?_,by show 2-1<2-0;decide⟩
    (conv=>whnf);exact zent
   ·rw [if_neg h2]
    have h8:chk n e=8:=(chk_08 n e).resolve_left h2
    rw [h8] at H2
    exact zw
  ·rw [if_pos h2]
   by_cases h3:chk r t=0
   ·rw [h3] at H3
    repeat' ((conv=>whnf);first|(with_reducible first|refine br_t ?_|refine br_f ?_|refine za ?_|refine zg ?_)|refine zp ?_|refine zq ?_|(with_reducible first|refine bc (fun h => ?_) (fun h => ?_)|refine zt ?_|refine zf ?_|refine br_i (fun h => ?_) (fun h => ?_))|refine zg ?_|refine zi ?_|refine zb ?_)
    all_goals conv=>whnf
    refine ⟨2,.inr (.inr ⟨rfl,h2,h3⟩),?_,by show 2-2<2-1;decide⟩
    (conv=>whnf);exact zent
   ·rw [if_neg h3]
    have h8:chk r t=8:=(chk_08 r t).resolve_left h3
    rw [h8] at H3
    exact zw
  ·rw [if_pos h2,if_pos h3]
   have H4:=(mlater_fnd h2 h3).ok
   by_cases hc:r*e<n*t
   ·rw [if_pos hc]
    have e1:cmpN (n*t) (r*e)=1:=by unfold cmpN;rw [if_neg (by omega),if_pos hc]
    rw [e1] at H4
    clear hc e1
    exact zw
   ·rw [if_neg hc]
    have e1:cmpN (n*t) (r*e)≤0:=by unfold cmpN;split<;>(try split)<;>omega
    generalize cmpN (n*t) (r*e)=z at *
    clear hc
    exact zw
 ·rw [if_neg h1]
  generalize fchk l=z at *
  refine fn_ok (by kernel_rfl) ty_ok Tryz.func83 rfl (fun _ _=>Tryz.call83 _ _) rfl ?_
  intro hw
  clear hw
  exact zw
end Go.Proofs.YtddbmpbihpkabaaGreat

namespace Go.Proofs.YtddbmpbihpkabaaGreat
open Go Go.RowKit Go.Sort Sx
structure Oth (b:Nat) (w w':World):Prop where
 os:w'.os=w.os
 tape:w'.tape=w.tape
 output:w'.output=w.output
 size:w'.heap.size=w.heap.size
 other:∀ k,k≠b→w'.heap[k]? = w.heap[k]?
 drawn:w.drawn≤w'.drawn
theorem Oth.trans {b:Nat} {w w' w'':World} (h:Oth b w w') (k:Oth b w' w''):Oth b w w'' :=
 ⟨k.os.trans h.os,k.tape.trans h.tape,k.output.trans h.output,k.size.trans h.size,fun i hi=>(k.other i hi).trans (h.other i hi),Nat.le_trans h.drawn k.drawn⟩
theorem Oth.drew (b:Nat) (w:World):Oth b w w.drew:=⟨rfl,rfl,rfl,rfl,fun _ _=>rfl,Nat.le_succ _⟩
theorem drew_cell (w:World) (a:Addr):w.drew.cell? a=w.cell? a:=rfl
theorem drew_cells {w:World} {b:Nat} {us:List Value} (h:CellsAt w b us):CellsAt w.drew b us:=h
theorem Oth.cell {b:Nat} {w w':World} (h:Oth b w w') {a:Addr} (ha:a.block≠b):w'.cell? a=w.cell? a:=World.cell?_of_block (h.other _ ha)
section
variable {P:Program}
theorem run_storeOth {w:World} {b o:Nat} {us vs:List Value} (hc:CellsAt w b us) (h1:∀ v∈vs,v.oneCell'=true) (hl:o+vs.length≤us.length):∃ w',(storeCells ⟨b,o,none⟩ vs).run P w=.ok () w'∧Oth b w w'∧CellsAt w' b (Sx.setL us o vs):=by
 obtain ⟨w',hr,e1,e2,e3,e4,e5,e6,e7⟩:=run_storeOwn (P:=P) vs w us o 0 hc h1 (by omega)
 exact ⟨w',hr,⟨e1,e2,e3,e4,e5,Nat.le_of_eq e7.symm⟩,e6⟩
theorem run_copyK {w:World} {dT sT ty elem k b o dLen dCap sLen sCap:Nat} {ad:Addr} {us vs:List Value} (hu:P.underlying dT=some (.slice elem)) (hs:∀ w,(sizeOf elem).run P w=.ok k w) (hc:CellsAt w b us)
  (hn:vs.length=Nat.min sLen dLen*k) (hsrc:∀ j v,vs[j]? = some v→w.cell? (ad.add j)=some v) (hfit:o+vs.length≤us.length) (h1:∀ v∈vs,v.oneCell'=true) :
  ∃ w',(Builtin.copy_ #[dT,sT] ty #[.slice (some ⟨b,o,none⟩) dLen dCap,.slice (some ad) sLen sCap]).run P w=.ok (goInt (Nat.min sLen dLen)) w'∧Oth b w w'∧CellsAt w' b (Sx.setL us o vs):=by
 obtain ⟨w',hr,e1,e2⟩:=run_storeOth (P:=P) hc h1 hfit
 refine ⟨w',?_,e1,e2⟩
 have hl:=run_loadCells_list (P:=P) w ad vs hsrc
 rw [hn] at hl
 simp [Builtin.copy_,run_underlying hu,Builtin.lenOf,Builtin.firstCells,hs,hl,hr]
theorem run_clearK {w:World} {t e ty k b o n c:Nat} {z:Value} {us:List Value} (hu:P.underlying t=some (.slice e)) (hv:∀ w,(zeroValue e).run P w=.ok z w) (hz:z.cells.size=k) (h1:∀ v∈z.cells.toList,v.oneCell'=true)
  (hc:CellsAt w b us) (hfit:o+n*k≤us.length) :
  ∃ w',(Builtin.clear_ #[t] ty #[.slice (some ⟨b,o,none⟩) n c]).run P w=.ok (.tuple #[]) w'∧Oth b w w'∧CellsAt w' b (Sx.setL us o (List.replicate n z.cells.toList).flatten):=by
 have hlen:(List.replicate n z.cells.toList).flatten.length=n*k:=by simp [hz]
 obtain ⟨w',hr,e1,e2⟩:=run_storeOth (P:=P) (vs:=(List.replicate n z.cells.toList).flatten) hc (fun v hv=>by
  obtain ⟨l,h2,h3⟩:=List.mem_flatten.1 hv
  rw [List.eq_of_mem_replicate h2] at h3
  exact h1 v h3) (by rw [hlen];exact hfit)
 cases n with
 | zero =>
  refine ⟨w,?_,⟨rfl,rfl,rfl,rfl,fun _ _=>rfl,Nat.le_refl _⟩,by simpa [setL_nil] using hc⟩
  simp [Builtin.clear_,run_underlying hu]
 | succ n =>
  refine ⟨w',?_,e1,e2⟩
  have e:(Builtin.zeroCells z.cells (n+1)).toList=(List.replicate (n+1) z.cells.toList).flatten:=made_list z.cells (n+1)
  simp only [Builtin.clear_,Sem.run_bind,run_underlying hu,Result.andThen_ok,hv,e,hr,Sem.run_pure,List.getElem?_toArray,List.getElem?_cons_zero]
theorem run_overlaps_own {w:World} {tS tR e:TypeId} (ht:P.underlying tS=some (.slice e)) {size:Nat} (hz:∀ w,(Go.sizeOf e).run P w=.ok size w) {a b:Addr} {la ca lb cb:Nat} (hne:a.block≠b.block) {v:Value} (ha:w.cell? a=some v) {us:List Value} (hb:CellsAt w b.block us) :
  (Extern.SlicesOverlaps.overlaps #[tS,tS] #[tR] #[.slice (some a) la ca,.slice (some b) lb cb]).run P w=.ok (.bool false) w:=by
 have hnb:(a.block != b.block)=true:=by simpa using hne
 have hnb':(a.block == b.block)=false:=by simpa using hne
 obtain ⟨T,hT⟩:=hb
 have hsb:w.shape? b.block=some (T,us.toArray.size):=by simp only [World.shape?,hT]
 have hfb:∀ o,w.frozen? { block:=b.block,off:=o }=false:=fun o=>by simp [World.frozen?,hT]
 have hfb':w.frozen? b=false:=by simp [World.frozen?,hT]
 obtain ⟨ca',Ta,fa,hA,hpos⟩:∃ cs T f,w.heap[a.block]? = some (.cells cs T f)∧cs.size≠0:=by
  unfold World.cell? at ha
  cases ho:w.heap[a.block]? with
  | none=>simp [ho] at ha
  | some o=>cases o<;>first|(refine ⟨_,_,_,rfl,?_⟩;intro h0;simp [ho] at ha;have:=ha.2;simp [Array.eq_empty_of_size_eq_zero h0] at this)|(simp [ho] at ha)
 have hsa:w.shape? a.block=some (Ta,ca'.size):=by simp only [World.shape?,hA]
 change Sem.run P (α:=Value) (do
  let some t:=(#[tS,tS]:Array TypeId)[0]? | stuck "slices.overlaps: no parameter types"
  let .slice elem ← underlying t|stuck "slices.overlaps: slice type expected"
  let size ← Go.sizeOf elem
  match (some a:Option Addr),(some b:Option Addr) with
  | some a,some b =>
   if la=0∨lb=0∨size=0 then pure (Value.bool false)
   else if a.block != b.block && (← frozen a) && (← frozen b) then unsupported .addressObserved
   else do
    if a.block != b.block then do
     noView a;noView b
     if ← mayBeOne a b then return Value.bool ((← choose (.extern "sameAddr.stringBytes" 2)) == 1)
    pure (Value.bool (a.block == b.block && a.off<b.off+lb*size && b.off<a.off+la*size))
  | _,_=>pure (Value.bool false)) w=_
 by_cases h0:la=0∨lb=0∨size=0
 ·simp [run_underlying ht,hz,h0]
 ·cases hk:ca'.size with
  | zero=>exact absurd hk hpos
  | succ m =>
   rw [hk] at hsa
   cases h1:w.frozen? a<;>cases h2:w.frozen? { block:=a.block,off:=m+1 } <;>
    simp [run_underlying ht,hz,h0,hnb,hnb',frozen,noView,viewAt,mayBeOne,stringish,shape,Sem.run,hsa,hsb,hfb,hfb',h1,h2]
end
set_option maxHeartbeats 4000000 in
set_option maxRecDepth 100000 in
theorem ins_shift (b n c i vb vo vc:Nat) (us xs:List Value) (w:World) (hc:CellsAt w b us) (hus:us.length=c*3) (hone:∀ v∈us.take (n*3),v.oneCell'=true) (hi:i<n) (hroom:n+1≤c) (hc63:c≤9223372036854775807) (hvb:vb≠b)
  (hxs:xs.length=3) (hx1:∀ v∈xs,v.oneCell'=true) (hv:∀ j u,xs[j]? = some u→w.cell? ⟨vb,vo+j,none⟩=some u) :
  Calls Tryz.prog 76 #[.slice (some ⟨b,0,none⟩) n c,.int .i64 i,.slice (some ⟨vb,vo,none⟩) 1 vc] w fun e w' =>
   e=.returned (.slice (some ⟨b,0,none⟩) (n+1) c)∧Oth b w w'∧CellsAt w' b (Sx.setL (Sx.setL us ((i+1)*3) ((us.drop (i*3)).take ((n-i)*3))) (i*3) xs):=by
 have h0:=hv 0 _ (List.getElem?_eq_getElem (by omega))
 rw [Nat.add_zero] at h0
 have hov:∀ lb cb,(callFunc 108 #[.slice (some ⟨vb,vo,none⟩) 1 vc,.slice (some ⟨b,(i+1)*3,none⟩) lb cb]).run Tryz.prog w=.ok (.value (.bool false)) w:=fun lb cb=>by
  rw [run_callFunc_extern Tryz.func108 (by kernel_rfl) (by kernel_rfl) (by kernel_rfl) (e:=Extern.SlicesOverlaps.overlaps #[24,24] #[4]) (by kernel_rfl),
   run_overlaps_own (a:=⟨vb,vo,none⟩) (b:=⟨b,(i+1)*3,none⟩) Tryz.underlying24 Tryz.sizeOf49 hvb h0 hc]
  rfl
 have hl1:((us.drop (i*3)).take ((n-i)*3)).length=(n-i)*3:=by rw [List.length_take,List.length_drop,hus];omega
 have hcp1:∀ ty dc sc,∃ w1,(Builtin.copy_ #[24,24] ty #[.slice (some ⟨b,(i+1)*3,none⟩) (n+1-(i+1)) dc,.slice (some ⟨b,i*3,none⟩) (n+1-i) sc]).run Tryz.prog w.drew=.ok (goInt ((n-i:Nat):Int)) w1∧Oth b w.drew w1∧CellsAt w1 b (Sx.setL us ((i+1)*3) ((us.drop (i*3)).take ((n-i)*3))):=fun ty dc sc=>by
  have:=run_copyK (P:=Tryz.prog) (w:=w.drew) (dT:=24) (sT:=24) (ty:=ty) (o:=(i+1)*3) (dLen:=n+1-(i+1)) (dCap:=dc) (sLen:=n+1-i) (sCap:=sc) (ad:=⟨b,i*3,none⟩) (vs:=(us.drop (i*3)).take ((n-i)*3)) Tryz.underlying24 Tryz.sizeOf49 hc
   (by rw [hl1];simp only [Nat.min_def];split<;>congr 1<;>omega) (fun j v hj=>by
    rw [add_plain,drew_cell,cell_of hc]
    rw [List.getElem?_take] at hj
    split at hj
    ·rw [List.getElem?_drop] at hj;exact hj
    ·cases hj) (by rw [hl1,hus];omega) (fun v hv=>hone v (by
    have:(us.drop (i*3)).take ((n-i)*3)=(us.take (n*3)).drop (i*3):=by rw [List.drop_take];congr 1;omega
    rw [this] at hv;exact List.mem_of_mem_drop hv))
  have e:Nat.min (n+1-i) (n+1-(i+1))=n-i:=by simp only [Nat.min_def];split<;>omega
  rwa [e] at this
 have hz2:¬ ((i:Int)=(n:Int)):=by omega
 have hw1:IntKind.i64.wrap ((i:Int)+1)=(i:Int)+1:=by rw [IntKind.wrap_i64];omega
 have hw2:IntKind.i64.wrap ((n:Int)+1)=(n:Int)+1:=by rw [IntKind.wrap_i64];omega
 have hin:i≤n:=by omega
 have hb2:¬ (c=i+1):=by omega
 have hb4:¬ (c=i):=by omega
 have htn:((i:Int)+1).toNat=i+1:=by omega
 have htn2:((n:Int)+1).toNat=n+1:=by omega
 have hb1:(0:Int)≤(i:Int)+1:=by omega
 have hb3:(i:Int)≤(n:Int)+1:=by omega
 have mixed:Tryz.prog.follows .mixedOrders=true:=by kernel_rfl
 clear hone
 go_enter Tryz.func76,Tryz.ntmps76
 go_wp2_with (simp only [hov])
 obtain ⟨w1,hr1,o1,c1⟩:=hcp1 3 (c-(i+1)) (c-i)
 obtain ⟨w2,hr2,o2,c2⟩:=run_copyK (P:=Tryz.prog) (w:=w1) (dT:=24) (sT:=24) (ty:=3) (o:=i*3) (dLen:=n+1-i) (dCap:=c-i) (sLen:=1) (sCap:=vc) (ad:=⟨vb,vo,none⟩) (vs:=xs) Tryz.underlying24 Tryz.sizeOf49 c1
  (by rw [hxs];simp only [Nat.min_def];split<;>omega) (fun j v hj=>by
   rw [add_plain,o1.cell hvb];exact hv j v hj) (by rw [setL_length,hus,hxs];omega) hx1
 go_region_law_o (refine step_copy_runI rfl _ _ 24 24 rfl _ _ (by simp [Act.eval,Act.put]) (by simp [Act.eval,Act.put]) hr1 ?_)
 go_wp2_with (at_builtin;refine wpList_copy_runI _ rfl _ _ 24 24 rfl _ _ rfl rfl hr2 ?_)
 go_ret
 exact ⟨rfl,((Oth.drew b w).trans o1).trans o2,c2⟩
set_option maxHeartbeats 4000000 in
set_option maxRecDepth 100000 in
theorem ins_end (x:Option Addr) (n c vb vo vc:Nat) (v:Value) (w w1:World) (hnc:n≤c) (hc63:c≤9223372036854775807) (hr:∀ ty,(Builtin.append_ #[24,24] ty #[.slice x n c,.slice (some ⟨vb,vo,none⟩) 1 vc]).run Tryz.prog w=.ok v w1) :
  Calls Tryz.prog 76 #[.slice x n c,.int .i64 n,.slice (some ⟨vb,vo,none⟩) 1 vc] w fun e w'=>e=.returned v∧w'=w1:=by
 have mixed:Tryz.prog.follows .mixedOrders=true:=by kernel_rfl
 go_enter Tryz.func76,Tryz.ntmps76
 cases x with
 | none =>
  go_wp2_with (at_builtin;refine Lib.wpList_append_run _ rfl _ _ _ _ rfl _ _ rfl rfl _ _ (hr _) ?_)
  all_goals (go_ret;exact ⟨rfl,rfl⟩)
 | some a =>
  obtain ⟨ab,ao,asp⟩:=a
  go_wp2_with (at_builtin;refine Lib.wpList_append_run _ rfl _ _ _ _ rfl _ _ rfl rfl _ _ (hr _) ?_)
  all_goals (go_ret;exact ⟨rfl,rfl⟩)
set_option maxHeartbeats 4000000 in
set_option maxRecDepth 100000 in
theorem ins_grow (b n c i vb vo vc:Nat) (us xs:List Value) (w:World) (hc:CellsAt w b us) (hus:us.length=c*3) (hone:∀ v∈us.take (n*3),v.oneCell'=true) (hi:i<n) (hnc:n≤c) (hroom:c<n+1) (hn6:n≤1000000)
  (hxs:xs.length=3) (hx1:∀ v∈xs,v.oneCell'=true) (hv:∀ j u,xs[j]? = some u→w.cell? ⟨vb,vo+j,none⟩=some u) :
  Calls Tryz.prog 76 #[.slice (some ⟨b,0,none⟩) n c,.int .i64 i,.slice (some ⟨vb,vo,none⟩) 1 vc] w fun e w' =>
   ∃ g row,e=.returned (.slice (some ⟨w.heap.size,0,none⟩) (n+1) g)∧n+1≤g∧g≤9223372036854775807∧Below w.heap.size w w'∧(w.heap.size<w'.heap.size∧w.drawn≤w'.drawn) ∧
    row.length=g*3∧CellsAt w' w.heap.size (Sx.setL (Sx.setL row (i*3) xs) ((i+1)*3) ((us.drop (i*3)).take ((n-i)*3)))∧row.take (i*3)=us.take (i*3):=by
 have hbw:b<w.heap.size:=by obtain ⟨T,hT⟩:=hc;exact (Array.getElem?_eq_some_iff.1 hT).1
 have h0:=hv 0 _ (List.getElem?_eq_getElem (by omega))
 have hvw:vb<w.heap.size:=block_lt_of_cell h0
 obtain ⟨e,he,hsz,_,_,ti,z,hi0,hsz0,hz0,hzs,_,hby⟩:=(ty_ok 24 (.sl 3 true [.v (.int .i64 0),.v (.int .i64 0),.v (.int .i64 0)]) rfl).2.2.2
 have hee:e=49:=by
  have:=he.symm.trans Tryz.underlying24
  injection this with this;injection this
 subst hee
 have hl1:((us.drop (i*3)).take ((n-i)*3)).length=(n-i)*3:=by rw [List.length_take,List.length_drop,hus];omega
 have hold:(Builtin.firstCells ti.size i (.slice (some ⟨b,0,none⟩) i c)).run Tryz.prog w.drew=.ok (us.take (i*3)).toArray w.drew:=by
  rw [hsz0]
  exact run_firstCells_some w.drew 3 i ⟨b,0,none⟩ i c (us.take (i*3)) (by rw [List.length_take];omega) (fun j v hj=>by
   rw [add_plain,Nat.zero_add,drew_cell,cell_of hc]
   rw [List.getElem?_take] at hj
   split at hj
   ·exact hj
   ·cases hj)
 have hkk:(n:Int)+1-(i:Int)=((n+1-i:Nat):Int):=by omega
 have hik:i+(n+1-i)=n+1:=by omega
 obtain ⟨G,hG⟩:∃ G,G=grownCap w (n+1) c 49:=⟨_,rfl⟩
 obtain ⟨ROW,hROW⟩:∃ ROW:Array Value,ROW=(us.take (i*3)).toArray++Builtin.zeroCells z.cells (n+1-i)++Builtin.zeroCells z.cells (G-(n+1)):=⟨_,rfl⟩
 have hrz:∀ ty,(Builtin.append_ #[24,3] ty #[.slice (some ⟨b,0,none⟩) i c,.int .i64 ((n:Int)+1-(i:Int))]).run Tryz.prog w =
   .ok (.slice (some ⟨w.heap.size,0,none⟩) (n+1) G) (w.drew.alloc (.cells ROW 49)):=fun ty=>by
  have h:=Lib.run_append_grow_zeros w 24 3 ty 49 ti _ .i64 .i64 Tryz.underlying24 Tryz.underlying3 hi0 hz0 (some ⟨b,0,none⟩) i c (us.take (i*3)) hold (n+1-i) (by omega) (by omega) (by omega) (by omega) (by
   have:(n+1-i)*ti.bytes≤1000001*65536:=Nat.mul_le_mul (by omega) hby
   omega) (by rw [hik];exact growslice_fits hroom (by
    have:(n+1)*ti.bytes≤1000001*65536:=Nat.mul_le_mul (by omega) hby
    omega))
  rw [hik,← hG,← hROW] at h
  rw [hkk]
  exact h
 have hGn:n+1≤G:=by rw [hG];exact grownCap_ge w _ _ _
 have hG63:G≤9223372036854775807:=by
  have:=grownCap_le_maxLen w (n+1) c 49 (by unfold maxLen;omega)
  rw [← hG] at this
  unfold maxLen at this
  omega
 have hRl:ROW.toList.length=G*3:=by
  rw [hROW]
  simp only [Array.toList_append,List.length_append,List.length_take,Array.length_toList,size_zeroCells,hzs]
  omega
 have hRt:ROW.toList.take (i*3)=us.take (i*3):=by
  rw [hROW]
  simp only [Array.toList_append,List.append_assoc]
  rw [List.take_append_of_le_length (by simp;omega),List.take_take,Nat.min_self]
 obtain ⟨W1,hW1⟩:∃ W1,W1=w.drew.alloc (.cells ROW 49):=⟨_,rfl⟩
 rw [← hW1] at hrz
 have c0:CellsAt W1 w.heap.size ROW.toList:=⟨49,by rw [hW1];exact (heap_alloc_new w.drew _)⟩
 have hB1:Below w.heap.size w W1:=by rw [hW1];exact below_drew_alloc w _
 have hd1:w.drawn≤W1.drawn:=by rw [hW1];exact Nat.le_succ _
 have hs1:W1.heap.size=w.heap.size+1:=by rw [hW1];simp
 have hold1:∀ {k o:Nat},k<w.heap.size→W1.cell? ⟨k,o,none⟩=w.cell? ⟨k,o,none⟩:=fun hk=>World.cell?_of_block (hB1.block _ hk)
 obtain ⟨w2,hr2,o2,c2⟩:=run_copyK (P:=Tryz.prog) (w:=W1) (dT:=24) (sT:=24) (ty:=3) (o:=i*3) (dLen:=n+1-i) (dCap:=G-i) (sLen:=1) (sCap:=vc) (ad:=⟨vb,vo,none⟩) (vs:=xs) Tryz.underlying24 Tryz.sizeOf49 c0
  (by rw [hxs];simp only [Nat.min_def];split<;>omega) (fun j v hj=>by
   rw [add_plain,hold1 hvw];exact hv j v hj) (by rw [hRl,hxs];omega) hx1
 obtain ⟨w3,hr3,o3,c3⟩:=run_copyK (P:=Tryz.prog) (w:=w2.drew) (dT:=24) (sT:=24) (ty:=3) (o:=(i+1)*3) (dLen:=n+1-(i+1)) (dCap:=G-(i+1)) (sLen:=n-i) (sCap:=c-i) (ad:=⟨b,i*3,none⟩) (vs:=(us.drop (i*3)).take ((n-i)*3)) Tryz.underlying24 Tryz.sizeOf49 (drew_cells c2)
  (by rw [hl1];simp only [Nat.min_def];split<;>congr 1<;>omega) (fun j v hj=>by
   rw [add_plain,drew_cell,o2.cell (by show b≠w.heap.size;omega),hold1 hbw,cell_of hc]
   rw [List.getElem?_take] at hj
   split at hj
   ·rw [List.getElem?_drop] at hj;exact hj
   ·cases hj) (by rw [hl1,setL_length,hRl];omega) (fun v hv=>hone v (by
   have:(us.drop (i*3)).take ((n-i)*3)=(us.take (n*3)).drop (i*3):=by rw [List.drop_take];congr 1;omega
   rw [this] at hv;exact List.mem_of_mem_drop hv))
 have hz2:¬ ((i:Int)=(n:Int)):=by omega
 have hz3:(c:Int)<(n:Int)+1:=by omega
 have hw1:IntKind.i64.wrap ((i:Int)+1)=(i:Int)+1:=by rw [IntKind.wrap_i64];omega
 have hw2:IntKind.i64.wrap ((n:Int)+1)=(n:Int)+1:=by rw [IntKind.wrap_i64];omega
 have hw3:IntKind.i64.wrap ((n:Int)+1-(i:Int))=(n:Int)+1-(i:Int):=by rw [IntKind.wrap_i64];omega
 have hin:i≤n:=by omega
 have hGi:¬ (G=i):=by omega
 have hGim:¬ (G=i+1):=by omega
 have hci:¬ (c=i):=by omega
 have hb1:(0:Int)≤(i:Int)+1:=by omega
 have hb3:(i:Int)≤(n:Int)+1:=by omega
 have hic:i≤c:=by omega
 have htn:((i:Int)+1).toNat=i+1:=by omega
 have mixed:Tryz.prog.follows .mixedOrders=true:=by kernel_rfl
 have FIN:Hid (Below w.heap.size w w3∧(w.heap.size<w3.heap.size∧w.drawn≤w3.drawn)):=Lib.hid (by
  have e1:=o2.size
  have e2:=o3.size
  refine ⟨⟨by rw [o3.os];show w2.os=_;rw [o2.os];exact hB1.os,by rw [o3.tape];show w2.tape=_;rw [o2.tape];exact hB1.tape,by rw [o3.output];show w2.output=_;rw [o2.output];exact hB1.output,by rw [e2];show w.heap.size≤w2.heap.size;omega,fun k hk => ?_⟩,by rw [e2];show _<w2.heap.size;omega,Nat.le_trans (Nat.le_trans hd1 o2.drawn) (Nat.le_trans (Nat.le_succ _) o3.drawn)⟩
  rw [o3.other k (by omega)]
  show w2.heap[k]? = _
  rw [o2.other k (by omega)]
  exact hB1.block k hk)
 clear hkk hik hold hROW hG hone hW1
 go_enter Tryz.func76,Tryz.ntmps76
 go_wp2_with (first
  | (at_builtin;refine Lib.wpList_append_run _ rfl _ _ _ _ rfl _ _ rfl rfl _ _ (hrz _) ?_)
  | (at_builtin;refine wpList_copy_runI _ rfl _ _ 24 24 rfl _ _ rfl rfl hr2 ?_))
 go_region_law_o (refine step_copy_runI rfl _ _ 24 24 rfl _ _ (by simp [Act.eval,Act.put]) (by simp [Act.eval,Act.put]) hr3 ?_)
 go_wp2
 go_ret
 exact ⟨G,ROW.toList,rfl,hGn,hG63,FIN.out.1,FIN.out.2,hRl,c3,hRt⟩
end Go.Proofs.YtddbmpbihpkabaaGreat
