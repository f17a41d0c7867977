import Derived.Test.YtfkfficabeclcaaGreatDoorGLTBackAP
import Derived.Test.YtfkfficabeclcaaGreatDoorGLTBackAK
import Derived.Test.YtfkfficabeclcaaGreatDoorGLTBackAJ
import Derived.Test.YtfkfficabeclcaaGreatDoorGLTBackAI
import Derived.Lib.AppendZerosOnto
import Derived.Shelf.Spec.SlicesInsert
import Derived.Deep.RegionLaw
import Derived.RangeFuncFrom
import Derived.RangeFuncLeaves
import Derived.WalkKit
import Derived.OwnWalkIn
import Derived.TacticsInMore
import Derived.RegionIn
import Derived.LoopNIn
import Derived.LoopIn
import Derived.RangeFuncCalls
set_option linter.all false
namespace Go.Proofs.YtfkfficabeclcaaGreatDoor
open Go Go.RowKit Go.Sort Sx
def fx (n m:Int) (p:Pt):Int:=p.a*m+p.b*n
def ldr (n m:Int) (p q:Pt):Prop:=fx n m q<fx n m p∨fx n m p=fx n m q∧(q.b<p.b∨p.b=q.b∧p.id<q.id)
instance (n m:Int) (p q:Pt):Decidable (ldr n m p q):=by unfold ldr;infer_instance
def srt (n m:Int) (l:List Pt):List Pt:=l.mergeSort fun x y => !decide (ldr n m y x)
theorem leadN_ldr (n m:Int) (p q:Pt):leadN p.id p.b q.id q.b ((p.a-q.a)*m+(p.b-q.b)*n) > 0↔ldr n m p q:=by
 have e:(p.a-q.a)*m+(p.b-q.b)*n=fx n m p-fx n m q:=by unfold fx;simp only [Int.sub_mul];omega
 rw [e]
 unfold ldr leadN cmpN
 generalize fx n m p=x
 generalize fx n m q=y
 (repeat' split)<;>omega
def cfP (n m:Int) (p q:Pt):Int:=if p.id=q.id then 0 else if ldr n m p q then -1 else 1
theorem two02_ne {n m:Int} {p q:Pt} (hp:p.chk=0) (hq:q.chk=0) (ht:chk n m=0) (hne:p.id≠q.id):two02 p.id p.a p.b q.id q.a q.b n m=0:=by
 unfold two02
 rw [if_pos ⟨hp,hq,ht⟩,if_neg hne]
theorem fsorted1_fnd {n m:Int} {p q:Pt} (hp:p.chk=0) (hq:q.chk=0) (ht:chk n m=0):FnD Tryz.prog 122 [p.dc,q.dc,.one (.ref [i64 n,i64 m])] (ret1 (cfP n m p q)):=by
 have hcap:([[i64 n,i64 m]]:List (List D))[0]? = some [i64 n,i64 m]:=rfl
 unfold cfP
 by_cases h:p.id=q.id
 ·rw [if_pos h]
  refine fn_okD (by kernel_rfl) ty_okD rfl Tryz.func122 rfl (fun _ _=>Tryz.call122 _ _) rfl ?_
  intro hw
  clear hw
  repeat' ((conv=>whnf);first|(with_reducible first|refine br_t ?_|refine br_f ?_|refine zd ?_|refine za ?_|refine zg ?_)|refine zp ?_|refine zq ?_|(with_reducible first|refine bc (fun h => ?_) (fun h => ?_)|refine zt ?_|refine zf ?_|refine br_i (fun h => ?_) (fun h => ?_))|refine zg ?_|refine zi ?_|refine zb ?_)
  all_goals conv=>whnf
  all_goals rfl
 ·rw [if_neg h]
  have H:=kAhead_fnd p.id p.a p.b q.id q.a q.b n m
  unfold aheadV at H
  rw [if_pos (two02_ne hp hq ht h)] at H
  simp only [retBI] at H
  by_cases hl:ldr n m p q
  ·rw [if_pos hl]
   rw [decide_eq_true ((leadN_ldr n m p q).2 hl)] at H
   refine fn_okD (by kernel_rfl) ty_okD rfl Tryz.func122 rfl (fun _ _=>Tryz.call122 _ _) rfl ?_
   intro hw
   clear hw
   repeat' ((conv=>whnf);first|(with_reducible first|refine br_t ?_|refine br_f ?_|refine zd ?_|refine za ?_|refine zg ?_)|refine zp ?_|refine zq ?_|(with_reducible first|refine bc (fun h => ?_) (fun h => ?_)|refine zt ?_|refine zf ?_|refine br_i (fun h => ?_) (fun h => ?_))|refine zg ?_|refine zi ?_|refine zb ?_)
   all_goals conv=>whnf
   all_goals rfl
  ·rw [if_neg hl]
   rw [decide_eq_false (fun h=>hl ((leadN_ldr n m p q).1 h))] at H
   refine fn_okD (by kernel_rfl) ty_okD rfl Tryz.func122 rfl (fun _ _=>Tryz.call122 _ _) rfl ?_
   intro hw
   clear hw
   repeat' ((conv=>whnf);first|(with_reducible first|refine br_t ?_|refine br_f ?_|refine zd ?_|refine za ?_|refine zg ?_)|refine zp ?_|refine zq ?_|(with_reducible first|refine bc (fun h => ?_) (fun h => ?_)|refine zt ?_|refine zf ?_|refine br_i (fun h => ?_) (fun h => ?_))|refine zg ?_|refine zi ?_|refine zb ?_)
   all_goals conv=>whnf
   all_goals rfl
def apart (l:List Pt):Prop:=∀ p∈l,∀ q∈l,p.id=q.id→p=q
theorem incr_apart {l:List Pt} (h:incr l=true):apart l:=by
 intro p hp q hq e
 obtain ⟨i,hi,rfl⟩:=List.getElem_of_mem hp
 obtain ⟨j,hj,rfl⟩:=List.getElem_of_mem hq
 rcases Nat.lt_trichotomy i j with h1|h1|h1
 ·have:=incr_lt h j i hj h1;omega
 ·exact getElem_congr rfl h1 _
 ·have:=incr_lt h i j hi h1;omega
theorem lt_cfP {n m:Int} {l:List Pt} (ha:apart l) {p q:Pt} (hp:p∈l) (hq:q∈l):ltOf (cfP n m) p q=decide (ldr n m p q):=by
 unfold ltOf cfP
 by_cases h:p.id=q.id
 ·have:=ha p hp q hq h
  subst this
  rw [if_pos rfl]
  have:¬ ldr n m p p:=by unfold ldr;omega
  simp [this]
 ·rw [if_neg h]
  by_cases hl:ldr n m p q<;>simp [hl]
theorem sortPt_mu {n m:Int} {l:List Pt} (hl:∀ p∈l,p.chk=0) (ha:apart l) (ht:chk n m=0) (hsz:l.length≤1000000):FnMu Tryz.prog 47 3 (l.map Pt.c) [.one (.clo 122 [[i64 n,i64 m]])] ((srt n m l).map Pt.c):=by
 cases l with
 | nil =>
  have:=sort_mu (P:=Tryz.prog) (ρ:=Tryz.sortPt_ren) (α:=Unit) (k:=3) Tryz.sortPt (by decide) Tryz.isAgg43 Tryz.sizeOf43 (fun _=>[.int .i64 0,.int .i64 0,.int .i64 0]) (fun _=>rfl) (fun _ v hv=>by simp at hv;subst hv;exact ⟨rfl,WD_v.1 (wd_i64.2 (by omega))⟩) (fun _ _=>0)
   ⟨fun _=>rfl,fun _ _ _ h=>by simp [ltOf] at h,fun _ _ _ _ _=>rfl⟩ (fun _ _ _ _=>rfl) (g:=122) (caps:=[[i64 n,i64 m]]) (fun _ _=>Tryz.call122 _ _) (fun _ _=>Tryz.call47 _ _)
   (fun _ _=>by
    have:=fsorted1_fnd (n:=n) (m:=m) (p:=⟨0,0,0⟩) (q:=⟨0,0,0⟩) rfl rfl ht
    unfold cfP at this
    rw [if_pos rfl] at this
    exact this) [] (by decide)
  simp only [List.map_nil,List.mergeSort_nil] at this
  rw [show srt n m []=[] by simp [srt]]
  exact this
 | cons y ys =>
  generalize hd:y::ys=l at *
  have:Inhabited {p:Pt // p∈l}:=⟨⟨y,by rw [← hd];exact List.mem_cons_self ..⟩⟩
  have key:=sort_mu (P:=Tryz.prog) (ρ:=Tryz.sortPt_ren) (α:={p:Pt // p∈l}) (k:=3) Tryz.sortPt (by decide) Tryz.isAgg43 Tryz.sizeOf43 (fun p=>[.int .i64 p.1.id,.int .i64 p.1.a,.int .i64 p.1.b]) (fun _=>rfl) (fun p v hv=>by
    have hc:=cpt_ok (hl p.1 p.2)
    simp at hv
    rcases hv with rfl|rfl|rfl
    all_goals exact ⟨rfl,WD_v.1 (wd_i64.2 (by omega))⟩) (fun p q=>cfP n m p.1 q.1)
   ⟨fun p => ?_,fun p q r h1 h2 => ?_,fun p q r h1 h2 => ?_⟩ (fun p q h1 h2 => ?_) (g:=122) (caps:=[[i64 n,i64 m]]) (fun _ _=>Tryz.call122 _ _) (fun _ _=>Tryz.call47 _ _)
   (fun p q=>fsorted1_fnd (hl p.1 p.2) (hl q.1 q.2) ht) l.attach (by simp;omega)
  ·have e1:(l.attach.map fun p=>([.int .i64 p.1.id,.int .i64 p.1.a,.int .i64 p.1.b]:List Value).map D.v)=l.map Pt.c:=by
    rw [show (fun p:{p:Pt // p∈l}=>([.int .i64 p.1.id,.int .i64 p.1.a,.int .i64 p.1.b]:List Value).map D.v)=Pt.c ∘ Subtype.val from rfl,← List.map_map,List.attach_map_subtype_val]
   have e2:((l.attach.mergeSort fun x y => !(ltOf fun p q:{p:Pt // p∈l}=>cfP n m p.1 q.1) y x).map fun p=>([.int .i64 p.1.id,.int .i64 p.1.a,.int .i64 p.1.b]:List Value).map D.v)=(srt n m l).map Pt.c:=by
    rw [show (fun p:{p:Pt // p∈l}=>([.int .i64 p.1.id,.int .i64 p.1.a,.int .i64 p.1.b]:List Value).map D.v)=Pt.c ∘ Subtype.val from rfl,← List.map_map]
    rw [List.map_mergeSort (s:=fun x y => !decide (ldr n m y x)) (fun a _ b _=>by
     have:=lt_cfP (n:=n) (m:=m) ha b.2 a.2
     unfold ltOf at this ⊢
     rw [this]),List.attach_map_subtype_val]
    rfl
   rw [e1,e2] at key
   exact key
  ·exact (lt_cfP ha p.2 p.2).trans (decide_eq_false (by unfold ldr;omega))
  ·have k1:=of_decide_eq_true ((lt_cfP ha p.2 q.2).symm.trans h1)
   have k2:=of_decide_eq_true ((lt_cfP ha q.2 r.2).symm.trans h2)
   exact (lt_cfP ha p.2 r.2).trans (decide_eq_true (by unfold ldr at *;omega))
  ·have k1:=of_decide_eq_false ((lt_cfP ha p.2 q.2).symm.trans h1)
   have k2:=of_decide_eq_false ((lt_cfP ha q.2 r.2).symm.trans h2)
   exact (lt_cfP ha p.2 r.2).trans (decide_eq_false (by unfold ldr at *;omega))
  ·have k1:=of_decide_eq_false ((lt_cfP ha p.2 q.2).symm.trans h1)
   have k2:=of_decide_eq_false ((lt_cfP ha q.2 p.2).symm.trans h2)
   exact Subtype.ext (ha _ p.2 _ q.2 (by unfold ldr at *;omega))
end Go.Proofs.YtfkfficabeclcaaGreatDoor

namespace Go.Proofs.YtfkfficabeclcaaGreatDoor
open Go Go.RowKit Go.Sort Sx
def tchk (l:List Pt) (n m:Int):Int:=if fchk l=0 then chk n m else fchk l
abbrev retL (l:List Pt) (e:Int):DV:=.tup [.one (pts l),.one (i64 e)]
theorem fsorted_fn (l:List Pt) (n m:Int):FnOK Tryz.prog 69 [fld l,rat n m] (if tchk l n m=0 then retL (srt n m l) 0 else retL [] (tchk l n m)):=by
 have H1:=fCheck_fn l
 have H2:=check_fn n m
 unfold tchk
 by_cases h1:fchk l=0
 ·obtain ⟨k1,k2,k3⟩:=fchk_ok h1
  simp only [if_pos h1]
  rw [h1] at H1
  by_cases h2:chk n m=0
  ·rw [if_pos h2]
   rw [h2] at H2
   have H3:=clonePt_own (l.map Pt.c) (by simp;omega)
   have H4:=sortPt_mu (n:=n) (m:=m) k2 (incr_apart k3) h2 (by omega)
   refine fn_ok (by kernel_rfl) (ty_okK [21] [47] [] []) Tryz.func69 rfl (fun _ _=>Tryz.call69 _ _) rfl ?_
   intro hw
   clear hw
   exact zw
  ·rw [if_neg h2]
   have h8:chk n m=8:=(chk_08 n m).resolve_left h2
   rw [h8] at H2 ⊢
   refine fn_ok (by kernel_rfl) ty_ok Tryz.func69 rfl (fun _ _=>Tryz.call69 _ _) rfl ?_
   intro hw
   clear hw
   exact zw
 ·simp only [if_neg h1]
  generalize fchk l=z at *
  refine fn_ok (by kernel_rfl) ty_ok Tryz.func69 rfl (fun _ _=>Tryz.call69 _ _) rfl ?_
  intro hw
  clear hw
  exact zw
end Go.Proofs.YtfkfficabeclcaaGreatDoor

namespace Go.Proofs.YtfkfficabeclcaaGreatDoor
open Go Go.RowKit Go.Sort Sx
theorem srt_perm (n m:Int) (l:List Pt):(srt n m l).Perm l:=List.mergeSort_perm l _
theorem srt_len (n m:Int) (l:List Pt):(srt n m l).length=l.length:=List.length_mergeSort _
theorem srt_sorted (n m:Int) (l:List Pt):(srt n m l).Pairwise fun x y=>¬ ldr n m y x:=by
 have h:=List.pairwise_mergeSort (le:=fun x y => !decide (ldr n m y x)) (fun a b c h1 h2=>by
  simp at *
  unfold ldr at *
  omega) (fun a b=>by
  simp only [Bool.or_eq_true,Bool.not_eq_true',decide_eq_false_iff_not]
  unfold ldr
  omega) l
 exact h.imp fun h=>by simpa using h
abbrev ints (l:List Int):D:=.list 1 (l.map fun i=>[i64 i])
def ordV (l:List Pt) (n m:Int):List Int:=(srt n m l).map Pt.id
end Go.Proofs.YtfkfficabeclcaaGreatDoor

namespace Go.Proofs.YtfkfficabeclcaaGreatDoor
open Go Go.RowKit Go.Sort Sx
theorem tchk_ok {l:List Pt} {n m:Int} (h:tchk l n m=0):fchk l=0∧chk n m=0:=by
 unfold tchk at h
 split at h
 ·exact ⟨by assumption,h⟩
 ·omega
theorem ints_get {l:List Int} {i:Nat} (h:i<l.length):(l.map fun i=>[i64 i])[((i:Nat):Int).toNat]? = some [i64 l[i]]:=by
 rw [Int.toNat_natCast,List.getElem?_map,List.getElem?_eq_getElem h];rfl
def orderV (l:List Pt) (n m:Int):List Int × Int:=if tchk l n m=0 then (ordV l n m,0) else ([],tchk l n m)
abbrev retO (x:List Int × Int):DV:=.tup [.one (ints x.1),.one (i64 x.2)]
def outI (s:List Pt) (i:Nat):List (List D):=(s.take i).map (fun p=>[i64 p.id])++List.replicate (s.length-i) [i64 0]
theorem outI_get {s:List Pt} {i:Nat} (h:i<s.length):(outI s i)[((i:Nat):Int).toNat]? = some [i64 0]:=by
 rw [Int.toNat_natCast,outI,List.getElem?_append_right (by simp;omega),List.getElem?_replicate,if_pos (by simp;omega)]
theorem outI_set {s:List Pt} {i:Nat} (h:i<s.length):(outI s i).set ((i:Nat):Int).toNat [i64 s[i].id]=outI s (i+1):=by
 rw [Int.toNat_natCast]
 unfold outI
 have hk:s.length-i=(s.length-(i+1))+1:=by omega
 rw [List.take_succ_eq_append_getElem h,hk,List.replicate_succ,List.set_append_right _ _ (by simp;omega)]
 have h0:i-((s.take i).map fun p:Pt=>[i64 p.id]).length=0:=by simp;omega
 rw [h0,List.map_append,List.append_assoc]
 rfl
theorem outI_len {s:List Pt} {i:Nat} (h:i≤s.length):(outI s i).length=s.length:=by simp [outI];omega
theorem fOrder_fn (l:List Pt) (n m:Int):FnOK Tryz.prog 33 [fld l,rat n m] (retO (orderV l n m)):=by
 refine fn_ok (by kernel_rfl) (ty_okK [22] [] [] []) Tryz.func33 rfl (fun _ _=>Tryz.call33 _ _) rfl ?_
 intro hw
 clear hw
 have H:=fsorted_fn l n m
 unfold orderV
 by_cases h:tchk l n m=0
 ·rw [if_pos h] at H ⊢
  obtain ⟨k1,k2,k3⟩:=fchk_ok (tchk_ok h).1
  have hl:(srt n m l).length=l.length:=srt_len n m l
  have e:(ordV l n m).map (fun i=>[i64 i])=outI (srt n m l) (srt n m l).length:=by simp [outI,ordV]
  generalize srt n m l=s at *
  repeat' ((conv=>whnf);first|(with_reducible first|refine br_t ?_|refine br_f ?_|refine za ?_|refine zg ?_|refine zo ?_)|rw [List.length_map]|refine zp ?_|refine zq ?_|(with_reducible first|refine bc (fun h => ?_) (fun h => ?_)|refine zt ?_|refine zf ?_|refine br_i (fun h => ?_) (fun h => ?_))|refine zg ?_|refine zi ?_|refine zb ?_|refine zl ?_)
  refine loop_J (by kernel_rfl) (ty_okK [22] [] [] []) (σ:=Nat) (fun i=>[(25,sV (.int .i64 i))]) (fun i=>[(22,.row 1 (outI s i) 0)]) (fun i=>i≤s.length) (fun i=>s.length-i) 0 (Nat.zero_le _) ?_ ?_
  ·(conv=>whnf);exact zent
  intro i hi
  have hol:=outI_len hi
  rcases Nat.lt_or_ge i s.length with hlt|hge
  ·have hel:=pts_get hlt
   have hel2:=outI_get hlt
   repeat' ((conv=>whnf);first|(with_reducible first|refine br_t ?_|refine br_f ?_|refine za ?_|refine zg ?_|refine zo ?_)|rw [List.length_map]|refine zp ?_|refine zq ?_|(with_reducible first|refine bc (fun h => ?_) (fun h => ?_)|refine zt ?_|refine zf ?_|refine br_i (fun h => ?_) (fun h => ?_))|refine zg ?_|refine zi ?_|refine zb ?_|refine zl ?_)
   all_goals conv=>whnf
   refine ⟨i+1,by omega,?_,by omega⟩
   (conv=>whnf);refine ⟨by repeat' (first|with_reducible exact zE0|with_reducible refine zE1 ?_ ?_|rfl|assumption|(exact congrArg (fun x=>some (Blk.row 1 x 0)) (outI_set hlt))|exact zi1|exact zb1),by repeat' (first|with_reducible exact zH0|with_reducible refine zH1 ?_ ?_|rfl|assumption|(exact congrArg (fun x=>some (Blk.row 1 x 0)) (outI_set hlt))),rfl⟩
  ·obtain rfl:i=s.length:=by omega
   repeat' ((conv=>whnf);first|(with_reducible first|refine br_t ?_|refine br_f ?_|refine za ?_|refine zg ?_|refine zo ?_)|rw [List.length_map]|refine zp ?_|refine zq ?_|(with_reducible first|refine bc (fun h => ?_) (fun h => ?_)|refine zt ?_|refine zf ?_|refine br_i (fun h => ?_) (fun h => ?_))|refine zg ?_|refine zi ?_|refine zb ?_|refine zl ?_)
   all_goals conv=>whnf
   all_goals exact congrArg (fun x=>DV.tup [.one (.list 1 x),.one (i64 0)]) e.symm
 ·rw [if_neg h] at H ⊢
  generalize tchk l n m=z at *
  exact zw
def findV (l:List Pt) (id:Int):Pt × Int:=if fchk l=0 then (if has l id then (l[pos l id]?.getD default,0) else (⟨0,0,0⟩,6)) else (⟨0,0,0⟩,fchk l)
abbrev retPt (x:Pt × Int):DV:=.tup [x.1.dc,.one (i64 x.2)]
theorem fFind_fn (l:List Pt) (id:Int):FnOK Tryz.prog 34 [fld l,.one (i64 id)] (retPt (findV l id)):=by
 refine fn_ok (by kernel_rfl) ty_ok Tryz.func34 rfl (fun _ _=>Tryz.call34 _ _) rfl ?_
 intro hw
 clear hw
 have H:=fplace_fn l id
 unfold findV
 unfold placeV at H
 by_cases h0:fchk l=0
 ·obtain ⟨k1,k2,k3⟩:=fchk_ok h0
  rw [if_pos h0] at H ⊢
  cases hh:has l id
  ·rw [hh,if_neg (by decide)] at H
   repeat' ((conv=>whnf);first|(with_reducible first|refine br_t ?_|refine br_f ?_|refine za ?_|refine zg ?_)|rw [List.length_map]|refine zp ?_|refine zq ?_|(with_reducible first|refine bc (fun h => ?_) (fun h => ?_)|refine zt ?_|refine zf ?_|refine br_i (fun h => ?_) (fun h => ?_))|refine zg ?_|refine zi ?_|refine zb ?_)
   all_goals conv=>whnf
   all_goals rfl
  ·rw [hh,if_pos rfl] at H
   obtain ⟨hlt,_⟩:=(has_pos k3).1 hh
   have hel:=pts_get hlt
   rw [if_pos rfl,List.getElem?_eq_getElem hlt]
   repeat' ((conv=>whnf);first|(with_reducible first|refine br_t ?_|refine br_f ?_|refine za ?_|refine zg ?_)|rw [List.length_map]|refine zp ?_|refine zq ?_|(with_reducible first|refine bc (fun h => ?_) (fun h => ?_)|refine zt ?_|refine zf ?_|refine br_i (fun h => ?_) (fun h => ?_))|refine zg ?_|refine zi ?_|refine zb ?_)
   all_goals conv=>whnf
   all_goals rfl
 ·rw [if_neg h0] at H ⊢
  generalize fchk l=z at *
  exact zw
end Go.Proofs.YtfkfficabeclcaaGreatDoor

namespace Go.Proofs.YtfkfficabeclcaaGreatDoor
open Go Go.RowKit Go.Sort Sx
def changeV (l:List Pt) (p:Pt):List Pt × Int:=if fchk l=0 then (if p.chk=0 then (if has l p.id then (l.set (pos l p.id) p,0) else ([],6)) else ([],8)) else ([],fchk l)
def without (l:List Pt) (id:Int):List Pt:=l.filter fun p=>decide (p.id≠id)
def takeV (l:List Pt) (id:Int):List Pt × Int:=if fchk l=0 then (if has l id then (without l id,0) else ([],6)) else ([],fchk l)
end Go.Proofs.YtfkfficabeclcaaGreatDoor

namespace Go.Proofs.YtfkfficabeclcaaGreatDoor
open Go Go.RowKit Go.Sort Sx
def insP (l:List Pt) (p:Pt):List Pt:=l.take (pos l p.id)++p::l.drop (pos l p.id)
def putV (l:List Pt) (p:Pt):List Pt × Int:=if fchk l=0 then (if p.chk=0 then (if has l p.id then ([],14) else if l.length=64 then ([],18) else (insP l p,0)) else ([],8)) else ([],fchk l)
end Go.Proofs.YtfkfficabeclcaaGreatDoor

namespace Go.Proofs.YtfkfficabeclcaaGreatDoor
open Go Go.RowKit Go.Sort Sx
structure Mt where
 n:Int
 d:Int
 i:Int
 j:Int
 deriving DecidableEq,Inhabited
def Mt.c (m:Mt):List D:=[i64 m.n,i64 m.d,i64 m.i,i64 m.j]
abbrev Mt.dc (m:Mt):DC:=.agg [i64 m.n,i64 m.d,i64 m.i,i64 m.j]
abbrev mts (l:List Mt):D:=.list 4 (l.map Mt.c)
theorem mlater_fnd {p q r t:Int} (h1:chk p q=0) (h2:chk r t=0):FnD Tryz.prog 201 (rat2 p q r t) (ret1 (cmpN (p*t) (r*q))):=by
 refine fn_okD (by kernel_rfl) ty_okD rfl Tryz.func201 rfl (fun _ _=>Tryz.call201 _ _) rfl ?_
 intro hw
 clear hw
 have H:=cmp_fnd p q r t
 unfold cmpV bth at H
 rw [if_pos (by rw [h1,if_pos rfl,h2])] at H
 simp only [ret2] at H
 generalize cmpN (p*t) (r*q)=z at *
 repeat' ((conv=>whnf);first|(with_reducible first|refine br_t ?_|refine br_f ?_|refine zd ?_|refine za ?_|refine zg ?_)|refine zp ?_|refine zq ?_|(with_reducible first|refine bc (fun h => ?_) (fun h => ?_)|refine zt ?_|refine zf ?_|refine br_i (fun h => ?_) (fun h => ?_))|refine zg ?_|refine zi ?_|refine zb ?_)
 all_goals conv=>whnf
 all_goals rfl
def orL:List Int→Int
 | []=>0
 | x::l=>if x=0 then orL l else x
theorem orL_drop {l:List Int}:∀ {i:Nat},i≤l.length→(∀ k (h:k<l.length),k<i→l[k]=0)→orL l=orL (l.drop i)
 | 0,_,_=>rfl
 | i+1,hi,h=>by
  rw [orL_drop (i:=i) (by omega) (fun k hk hki=>h k hk (by omega)),List.drop_eq_getElem_cons (show i<l.length by omega),orL,if_pos (h i (by omega) (by omega))]
theorem cmporL_fnd (l:List Int) (hl:l.length≤1000000):FnD Tryz.prog 131 [.one (ints l)] (ret1 (orL l)):=by
 refine fn_okD (by kernel_rfl) ty_okD rfl Tryz.func131 rfl (fun _ _=>Tryz.call131 _ _) rfl ?_
 intro hw
 clear hw
 have hll:(l.map fun i=>[i64 i]).length=l.length:=List.length_map ..
 repeat' ((conv=>whnf);first|(with_reducible first|refine br_t ?_|refine br_f ?_|refine zd ?_|refine za ?_|refine zg ?_)|refine zp ?_|refine zq ?_|(with_reducible first|refine bc (fun h => ?_) (fun h => ?_)|refine zt ?_|refine zf ?_|refine br_i (fun h => ?_) (fun h => ?_))|refine zg ?_|refine zi ?_|refine zb ?_)
 refine loop_J (by kernel_rfl) ty_okD (σ:=Nat) (fun i=>[(8,sV (.int .i64 i))]) (fun _=>[]) (fun i=>i≤l.length∧∀ k (h:k<l.length),k<i→l[k]=0) (fun i=>l.length-i) 0 ⟨Nat.zero_le _,fun k _ h=>absurd h (Nat.not_lt_zero _)⟩ ?_ ?_
 ·(conv=>whnf);exact zent
 rintro i ⟨hi,hI⟩
 rcases Nat.lt_or_ge i l.length with hlt|hge
 ·have hel:=ints_get hlt
  by_cases hc:l[i]=0
  ·repeat' ((conv=>whnf);first|(with_reducible first|refine br_t ?_|refine br_f ?_|refine zd ?_|refine za ?_|refine zg ?_)|refine zp ?_|refine zq ?_|(with_reducible first|refine bc (fun h => ?_) (fun h => ?_)|refine zt ?_|refine zf ?_|refine br_i (fun h => ?_) (fun h => ?_))|refine zg ?_|refine zi ?_|refine zb ?_)
   all_goals conv=>whnf
   refine ⟨i+1,⟨by omega,fun k hk hki => ?_⟩,?_,by omega⟩
   ·rcases Nat.lt_or_ge k i with h|h
    ·exact hI k hk h
    ·have:k=i:=by omega
     subst this;exact hc
   ·(conv=>whnf);exact zent
  ·rw [orL_drop hi hI,List.drop_eq_getElem_cons hlt,orL,if_neg hc]
   repeat' ((conv=>whnf);first|(with_reducible first|refine br_t ?_|refine br_f ?_|refine zd ?_|refine za ?_|refine zg ?_)|refine zp ?_|refine zq ?_|(with_reducible first|refine bc (fun h => ?_) (fun h => ?_)|refine zt ?_|refine zf ?_|refine br_i (fun h => ?_) (fun h => ?_))|refine zg ?_|refine zi ?_|refine zb ?_)
   all_goals conv=>whnf
   all_goals rfl
 ·rw [orL_drop hi hI,List.drop_eq_nil_of_le hge,orL]
  repeat' ((conv=>whnf);first|(with_reducible first|refine br_t ?_|refine br_f ?_|refine zd ?_|refine za ?_|refine zg ?_)|refine zp ?_|refine zq ?_|(with_reducible first|refine bc (fun h => ?_) (fun h => ?_)|refine zt ?_|refine zf ?_|refine br_i (fun h => ?_) (fun h => ?_))|refine zg ?_|refine zi ?_|refine zb ?_)
  all_goals conv=>whnf
  all_goals rfl
def cfM (a b:Mt):Int:=orL [cmpN (a.n*b.d) (b.n*a.d),cmpN a.i b.i,cmpN a.j b.j]
theorem morder_fnd {a b:Mt} (h1:chk a.n a.d=0) (h2:chk b.n b.d=0):FnD Tryz.prog 205 [a.dc,b.dc] (ret1 (cfM a b)):=by
 have H1:=mlater_fnd h1 h2
 have H2:=cmpint_fnd a.i b.i
 have H3:=cmpint_fnd a.j b.j
 unfold cfM
 have H4:=cmporL_fnd [cmpN (a.n*b.d) (b.n*a.d),cmpN a.i b.i,cmpN a.j b.j] (by simp)
 generalize orL [cmpN (a.n*b.d) (b.n*a.d),cmpN a.i b.i,cmpN a.j b.j]=z at *
 generalize cmpN (a.n*b.d) (b.n*a.d)=x at *
 generalize cmpN a.i b.i=y at *
 generalize cmpN a.j b.j=u at *
 change FnD _ _ [.one (.list 1 [[i64 x],[i64 y],[i64 u]])] _ at H4
 refine fn_okD (by kernel_rfl) ty_okD rfl Tryz.func205 rfl (fun _ _=>Tryz.call205 _ _) rfl ?_
 intro hw
 clear hw
 repeat' ((conv=>whnf);first|(with_reducible first|refine br_t ?_|refine br_f ?_|refine zd ?_|refine za ?_|refine zg ?_)|refine zp ?_|refine zq ?_|(with_reducible first|refine bc (fun h => ?_) (fun h => ?_)|refine zt ?_|refine zf ?_|refine br_i (fun h => ?_) (fun h => ?_))|refine zg ?_|refine zi ?_|refine zb ?_)
 all_goals conv=>whnf
 all_goals rfl
end Go.Proofs.YtfkfficabeclcaaGreatDoor

namespace Go.Proofs.YtfkfficabeclcaaGreatDoor
open Go Go.RowKit Go.Sort Sx
def Mt.ok (m:Mt):Prop:=chk m.n m.d=0∧(-9223372036854775808≤m.n∧m.n≤9223372036854775807)∧m.d≤9223372036854775807∧(-9223372036854775808≤m.i∧m.i≤9223372036854775807) ∧ -9223372036854775808≤m.j∧m.j≤9223372036854775807
def mlt (a b:Mt):Prop:=qv a.n a.d<qv b.n b.d∨qv a.n a.d=qv b.n b.d∧(a.i<b.i∨a.i=b.i∧a.j<b.j)
instance (a b:Mt):Decidable (mlt a b):=by unfold mlt;infer_instance
def msrt (l:List Mt):List Mt:=l.mergeSort fun x y => !decide (mlt y x)
theorem qv_ltM {p q r t:Int} (h1:chk p q=0) (h2:chk r t=0):qv p q<qv r t↔p*t<r*q:=by
 have e1:=Rat.lt_iff (qv p q) (qv r t)
 rw [qv_num h1,qv_num h2,qv_den h1,qv_den h2] at e1
 exact e1
theorem lt_cfM {a b:Mt} (h1:a.ok) (h2:b.ok):ltOf cfM a b=decide (mlt a b):=by
 have q1:=qv_ltM h1.1 h2.1
 have q2:=qv_ltM h2.1 h1.1
 unfold ltOf
 rw [decide_eq_decide]
 unfold cfM orL orL orL orL mlt cmpN
 generalize qv a.n a.d=x at *
 generalize qv b.n b.d=y at *
 generalize a.n*b.d=u at *
 generalize b.n*a.d=v at *
 have tri:(u<v∧x<y)∨(v<u∧y<x)∨(u=v∧x=y):=by
  rcases Int.lt_trichotomy u v with h|h|h
  ·exact .inl ⟨h,q1.2 h⟩
  ·refine .inr (.inr ⟨h,?_⟩)
   have k1:¬ x<y:=fun k=>by have:=q1.1 k;omega
   have k2:¬ y<x:=fun k=>by have:=q2.1 k;omega
   exact Rat.le_antisymm (Rat.not_lt.1 k2) (Rat.not_lt.1 k1)
  ·exact .inr (.inl ⟨h,q2.2 h⟩)
 rcases tri with ⟨h,k⟩|⟨h,k⟩|⟨h,k⟩
 ·simp [h,k]
 ·have k1:¬ x<y:=fun e=>by have:=q1.1 e;omega
  have k2:x≠y:=fun e=>by rw [e] at k;exact absurd k Rat.lt_irrefl
  have k3:¬ u<v:=by omega
  simp [h,k1,k2,k3]
 ·subst h k
  simp [Rat.lt_irrefl]
  (repeat' split)<;>omega
theorem mlt_irrefl (a:Mt):¬ mlt a a:=by
 unfold mlt
 simp [Rat.lt_irrefl]
theorem mlt_trans {a b c:Mt} (h1:mlt a b) (h2:mlt b c):mlt a c:=by
 unfold mlt at *
 rcases h1 with h1|⟨e1,h1⟩<;>rcases h2 with h2|⟨e2,h2⟩
 ·exact .inl (Std.lt_trans h1 h2)
 ·exact .inl (by rw [← e2];exact h1)
 ·exact .inl (by rw [e1];exact h2)
 ·exact .inr ⟨e1.trans e2,by omega⟩
theorem mlt_tri (a b:Mt):mlt a b∨mlt b a∨(qv a.n a.d=qv b.n b.d∧a.i=b.i∧a.j=b.j):=by
 unfold mlt
 by_cases h1:qv a.n a.d<qv b.n b.d
 ·exact .inl (.inl h1)
 ·by_cases h2:qv b.n b.d<qv a.n a.d
  ·exact .inr (.inl (.inl h2))
  ·have e:qv a.n a.d=qv b.n b.d:=Rat.le_antisymm (Rat.not_lt.1 h2) (Rat.not_lt.1 h1)
   rw [e]
   simp only [true_and]
   have:=Rat.lt_irrefl (a:=qv b.n b.d)
   simp only [this,false_or]
   omega
theorem mlt_eq {a b:Mt} (h1:chk a.n a.d=0) (h2:chk b.n b.d=0) (k1:¬ mlt a b) (k2:¬ mlt b a):a=b:=by
 rcases mlt_tri a b with h|h|⟨h,hi,hj⟩
 ·exact absurd h k1
 ·exact absurd h k2
 ·obtain ⟨e1,e2⟩:=(qv_inj h1 h2).1 h
  cases a;cases b
  simp_all
theorem sortMt_mu {l:List Mt} (hl:∀ m∈l,m.ok) (hsz:l.length≤1000000):FnMu Tryz.prog 204 4 (l.map Mt.c) [.one (.clo 205 [])] ((msrt l).map Mt.c):=by
 have hnil:∀ (m:Mt),m.ok→FnMu Tryz.prog 204 4 [] [.one (.clo 205 [])] []:=fun m hm=>by
  have:=sort_mu (P:=Tryz.prog) (ρ:=Tryz.sortMt_ren) (α:=Unit) (k:=4) Tryz.sortMt (by decide) Tryz.isAgg31 Tryz.sizeOf31 (fun _=>[.int .i64 0,.int .i64 1,.int .i64 0,.int .i64 0]) (fun _=>rfl) (fun _ v hv=>by simp at hv;rcases hv with rfl|rfl|rfl<;>exact ⟨rfl,WD_v.1 (wd_i64.2 (by omega))⟩) (fun _ _=>0)
   ⟨fun _=>rfl,fun _ _ _ h=>by simp [ltOf] at h,fun _ _ _ _ _=>rfl⟩ (fun _ _ _ _=>rfl) (g:=205) (caps:=[]) (fun _ _=>Tryz.call205 _ _) (fun _ _=>Tryz.call204 _ _)
   (fun _ _=>by
    have:=morder_fnd (a:=⟨0,1,0,0⟩) (b:=⟨0,1,0,0⟩) (by decide) (by decide)
    exact this) [] (by decide)
  simp only [List.map_nil,List.mergeSort_nil] at this
  exact this
 cases l with
 | nil =>
  rw [show msrt []=[] by simp [msrt]]
  exact hnil ⟨0,1,0,0⟩ ⟨by decide,by decide,by decide,by decide,by decide⟩
 | cons y ys =>
  generalize hd:y::ys=l at *
  have:Inhabited {p:Mt // p∈l}:=⟨⟨y,by rw [← hd];exact List.mem_cons_self ..⟩⟩
  have key:=sort_mu (P:=Tryz.prog) (ρ:=Tryz.sortMt_ren) (α:={p:Mt // p∈l}) (k:=4) Tryz.sortMt (by decide) Tryz.isAgg31 Tryz.sizeOf31 (fun p=>[.int .i64 p.1.n,.int .i64 p.1.d,.int .i64 p.1.i,.int .i64 p.1.j]) (fun _=>rfl) (fun p v hv=>by
    obtain ⟨hc,h2,h3,h4,h5⟩:=hl p.1 p.2
    have h6:=((chk_iff _ _).1 hc).1
    simp at hv
    rcases hv with rfl|rfl|rfl|rfl
    all_goals exact ⟨rfl,WD_v.1 (wd_i64.2 (by omega))⟩) (fun p q=>cfM p.1 q.1)
   ⟨fun p => ?_,fun p q r h1 h2 => ?_,fun p q r h1 h2 => ?_⟩ (fun p q h1 h2 => ?_) (g:=205) (caps:=[]) (fun _ _=>Tryz.call205 _ _) (fun _ _=>Tryz.call204 _ _)
   (fun p q=>morder_fnd (hl p.1 p.2).1 (hl q.1 q.2).1) l.attach (by simp;omega)
  ·have e1:(l.attach.map fun p=>([.int .i64 p.1.n,.int .i64 p.1.d,.int .i64 p.1.i,.int .i64 p.1.j]:List Value).map D.v)=l.map Mt.c:=by
    rw [show (fun p:{p:Mt // p∈l}=>([.int .i64 p.1.n,.int .i64 p.1.d,.int .i64 p.1.i,.int .i64 p.1.j]:List Value).map D.v)=Mt.c ∘ Subtype.val from rfl,← List.map_map,List.attach_map_subtype_val]
   have e2:((l.attach.mergeSort fun x y => !(ltOf fun p q:{p:Mt // p∈l}=>cfM p.1 q.1) y x).map fun p=>([.int .i64 p.1.n,.int .i64 p.1.d,.int .i64 p.1.i,.int .i64 p.1.j]:List Value).map D.v)=(msrt l).map Mt.c:=by
    rw [show (fun p:{p:Mt // p∈l}=>([.int .i64 p.1.n,.int .i64 p.1.d,.int .i64 p.1.i,.int .i64 p.1.j]:List Value).map D.v)=Mt.c ∘ Subtype.val from rfl,← List.map_map]
    rw [List.map_mergeSort (s:=fun x y => !decide (mlt y x)) (fun a _ b _=>by
     have:=lt_cfM (hl b.1 b.2) (hl a.1 a.2)
     unfold ltOf at this ⊢
     rw [this]),List.attach_map_subtype_val]
    rfl
   rw [e1,e2] at key
   exact key
  ·exact (lt_cfM (hl p.1 p.2) (hl p.1 p.2)).trans (decide_eq_false (mlt_irrefl _))
  ·have k1:=of_decide_eq_true ((lt_cfM (hl p.1 p.2) (hl q.1 q.2)).symm.trans h1)
   have k2:=of_decide_eq_true ((lt_cfM (hl q.1 q.2) (hl r.1 r.2)).symm.trans h2)
   exact (lt_cfM (hl p.1 p.2) (hl r.1 r.2)).trans (decide_eq_true (mlt_trans k1 k2))
  ·have k1:=of_decide_eq_false ((lt_cfM (hl p.1 p.2) (hl q.1 q.2)).symm.trans h1)
   have k2:=of_decide_eq_false ((lt_cfM (hl q.1 q.2) (hl r.1 r.2)).symm.trans h2)
   refine (lt_cfM (hl p.1 p.2) (hl r.1 r.2)).trans (decide_eq_false fun k3 => ?_)
   rcases mlt_tri q.1 p.1 with h|h|h
   ·exact k2 (mlt_trans h k3)
   ·exact k1 h
   ·exact k2 (by rw [mlt_eq (hl q.1 q.2).1 (hl p.1 p.2).1 (fun h'=>k2 (mlt_trans h' k3)) k1];exact k3)
  ·have k1:=of_decide_eq_false ((lt_cfM (hl p.1 p.2) (hl q.1 q.2)).symm.trans h1)
   have k2:=of_decide_eq_false ((lt_cfM (hl q.1 q.2) (hl p.1 p.2)).symm.trans h2)
   exact Subtype.ext (mlt_eq (hl p.1 p.2).1 (hl q.1 q.2).1 k1 k2)
end Go.Proofs.YtfkfficabeclcaaGreatDoor

namespace Go.Proofs.YtfkfficabeclcaaGreatDoor
open Go Go.RowKit Go.Sort Sx
theorem mts_get {l:List Mt} {i:Nat} (h:i<l.length):(l.map Mt.c)[((i:Nat):Int).toNat]? = some [i64 l[i].n,i64 l[i].d,i64 l[i].i,i64 l[i].j]:=by
 rw [Int.toNat_natCast,List.getElem?_map,List.getElem?_eq_getElem h];rfl
theorem mbehind1_fn (m:Mt) (n e:Int) (h1:chk m.n m.d=0) (h2:chk n e=0):FnOK Tryz.prog 207 [m.dc,rat n e] (ret1 (if n*m.d<m.n*e then 1 else -1)):=by
 have H:=(mlater_fnd h1 h2).ok
 by_cases h:n*m.d<m.n*e
 ·rw [if_pos h]
  have e1:cmpN (m.n*e) (n*m.d)=1:=by unfold cmpN;rw [if_neg (by omega),if_pos h]
  rw [e1] at H
  refine fn_ok (by kernel_rfl) ty_ok Tryz.func207 rfl (fun _ _=>Tryz.call207 _ _) rfl ?_
  intro hw
  clear hw h e1
  exact zw
 ·rw [if_neg h]
  have e1:cmpN (m.n*e) (n*m.d)≤0:=by unfold cmpN;split<;>(try split)<;>omega
  generalize cmpN (m.n*e) (n*m.d)=z at *
  refine fn_ok (by kernel_rfl) ty_ok Tryz.func207 rfl (fun _ _=>Tryz.call207 _ _) rfl ?_
  intro hw
  clear hw h
  exact zw
def bcnt:List Mt→Int→Int→Nat
 | [],_,_=>0
 | m::l,n,e=>if n*m.d<m.n*e then 0 else bcnt l n e+1
theorem bcnt_eq:∀ {l:List Mt} {n e:Int} {i:Nat},i≤l.length→(∀ k (h:k<l.length),k<i→l[k].n*e≤n*l[k].d)→(∀ k (h:k<l.length),i≤k→n*l[k].d<l[k].n*e)→bcnt l n e=i
 | [],n,e,i,hi,_,_=>by simp at hi;simp [bcnt,hi]
 | m::l,n,e,0,hi,h1,h2=>by
  have:=h2 0 (by simp) (Nat.le_refl _)
  simp at this
  rw [bcnt,if_pos this]
 | m::l,n,e,i+1,hi,h1,h2=>by
  have:=h1 0 (by simp) (by omega)
  simp at this
  rw [bcnt,if_neg (by omega),bcnt_eq (by simpa using hi) (fun k h hk=>h1 (k+1) (by simpa using h) (by omega)) (fun k h hk=>h2 (k+1) (by simpa using h) (by omega))]
structure Asc (l:List Mt):Prop where
 ok:∀ i (h:i<l.length),chk l[i].n l[i].d=0
 up:∀ j i (hj:j<l.length) (hij:i<j),qv l[i].n l[i].d≤qv l[j].n l[j].d
theorem bsMt_fn (l:List Mt) (n e:Int) (hs:Asc l) (ht:chk n e=0) (hl:l.length≤1000000):FnOK Tryz.prog 206 [.one (mts l),rat n e,.one (.clo 207 [])] (.tup [.one (i64 (bcnt l n e:Nat)),.one (bol false)]):=by
 refine fn_ok (by kernel_rfl) ty_ok Tryz.func206 rfl (fun _ _=>Tryz.call206 _ _) rfl ?_
 intro hw
 clear hw
 have hln:(l.map Mt.c).length=l.length:=List.length_map ..
 repeat' ((conv=>whnf);first|(with_reducible first|refine br_t ?_|refine br_f ?_|refine za ?_|refine zg ?_)|refine zp ?_|refine zq ?_|(with_reducible first|refine bc (fun h => ?_) (fun h => ?_)|refine zt ?_|refine zf ?_|refine br_i (fun h => ?_) (fun h => ?_))|refine zg ?_|refine zi ?_|refine zb ?_)
 refine loop_J (by kernel_rfl) ty_ok (σ:=Nat × Nat) (fun s=>[(9,sV (.int .i64 s.1)),(10,sV (.int .i64 s.2))]) (fun _=>[])
  (fun s=>s.1≤s.2∧s.2≤l.length∧(∀ k (h:k<l.length),k<s.1→l[k].n*e≤n*l[k].d)∧∀ k (h:k<l.length),s.2≤k→n*l[k].d<l[k].n*e) (fun s=>s.2-s.1) (0,l.length) ⟨by omega,by omega,fun k h hk=>absurd hk (Nat.not_lt_zero _),fun k h hk=>absurd h (by show ¬ k<l.length;exact Nat.not_lt.2 hk)⟩ ?_ ?_
 ·(conv=>whnf);exact zent
 rintro ⟨i,j⟩ ⟨h1,h2,h3,h4⟩
 simp only at h1 h2 h3 h4
 rcases Nat.lt_or_ge i j with hlt|hge
 ·have hm:(i+j) / 2<l.length:=by omega
  have hmid:=mid_eq i j (by omega)
  have hel:=mts_get hm
  have HC:=mbehind1_fn l[(i+j) / 2] n e (hs.ok _ hm) ht
  have q0:=qv_ltM ht (hs.ok _ hm)
  by_cases hc:n*l[(i+j) / 2].d<l[(i+j) / 2].n*e
  ·rw [if_pos hc] at HC
   have hN:∀ k (h:k<l.length),(i+j) / 2≤k→n*l[k].d<l[k].n*e:=fun k h hk=>by
    rcases Nat.lt_or_ge ((i+j) / 2) k with h5|h5
    ·exact (qv_ltM ht (hs.ok k h)).1 (Std.lt_of_lt_of_le (q0.2 hc) (hs.up k _ h h5))
    ·have:k=(i+j) / 2:=by omega
     subst this;exact hc
   clear hc q0
   repeat' ((conv=>whnf);first|(with_reducible first|refine br_t ?_|refine br_f ?_|refine za ?_|refine zg ?_)|rw [hmid]|refine zp ?_|refine zq ?_|(with_reducible first|refine bc (fun h => ?_) (fun h => ?_)|refine zt ?_|refine zf ?_|refine br_i (fun h => ?_) (fun h => ?_))|refine zg ?_|refine zi ?_|refine zb ?_)
   all_goals conv=>whnf
   refine ⟨(i,(i+j) / 2),⟨by show _≤_;omega,by show _≤_;omega,h3,hN⟩,?_,by show _-_<_-_;omega⟩
   (conv=>whnf);exact zent
  ·rw [if_neg hc] at HC
   have hN:∀ k (h:k<l.length),k<(i+j) / 2+1→l[k].n*e≤n*l[k].d:=fun k h hk=>by
    rcases Nat.lt_or_ge k ((i+j) / 2) with h5|h5
    ·have h6:=hs.up _ k hm h5
     have h7:¬ qv n e<qv l[k].n l[k].d:=fun h8=>hc (q0.1 (Std.lt_of_lt_of_le h8 h6))
     rw [qv_ltM ht (hs.ok k h)] at h7;omega
    ·have:k=(i+j) / 2:=by omega
     subst this;omega
   clear hc q0
   repeat' ((conv=>whnf);first|(with_reducible first|refine br_t ?_|refine br_f ?_|refine za ?_|refine zg ?_)|rw [hmid]|refine zp ?_|refine zq ?_|(with_reducible first|refine bc (fun h => ?_) (fun h => ?_)|refine zt ?_|refine zf ?_|refine br_i (fun h => ?_) (fun h => ?_))|refine zg ?_|refine zi ?_|refine zb ?_)
   all_goals conv=>whnf
   refine ⟨((i+j) / 2+1,j),⟨by show _≤_;omega,h2,hN,h4⟩,?_,by show _-_<_-_;omega⟩
   (conv=>whnf);exact zent
 ·have eij:i=j:=by omega
  subst eij
  have hp:=bcnt_eq h2 h3 h4
  rw [hp]
  rcases Nat.lt_or_ge i l.length with hlt|hge2
  ·have hel:=mts_get hlt
   have HC:=mbehind1_fn l[i] n e (hs.ok i hlt) ht
   rw [if_pos (h4 i hlt (Nat.le_refl _))] at HC
   clear h3 h4
   exact zw
  ·clear h3 h4
   exact zw
theorem mbehind_fn (l:List Mt) (n e:Int) (hs:Asc l) (ht:chk n e=0) (hl:l.length≤1000000):FnOK Tryz.prog 157 [.one (mts l),rat n e] (ret1 (bcnt l n e:Nat)):=by
 refine fn_ok (by kernel_rfl) ty_ok Tryz.func157 rfl (fun _ _=>Tryz.call157 _ _) rfl ?_
 intro hw
 clear hw
 have H:=bsMt_fn l n e hs ht hl
 exact zw
end Go.Proofs.YtfkfficabeclcaaGreatDoor

namespace Go.Proofs.YtfkfficabeclcaaGreatDoor
open Go Go.RowKit Go.Sort Sx
end Go.Proofs.YtfkfficabeclcaaGreatDoor

namespace Go.Proofs.YtfkfficabeclcaaGreatDoor
open Go Go.RowKit Go.Sort Sx
structure Oth (b:Nat) (w w':World):Prop where
 os:w'.os=w.os
 tape:w'.tape=w.tape
 output:w'.output=w.output
 size:w'.heap.size=w.heap.size
 other:∀ k,k≠b→w'.heap[k]? = w.heap[k]?
 drawn:w.drawn≤w'.drawn
theorem Oth.trans {b:Nat} {w w' w'':World} (h:Oth b w w') (k:Oth b w' w''):Oth b w w'' :=
 ⟨k.os.trans h.os,k.tape.trans h.tape,k.output.trans h.output,k.size.trans h.size,fun i hi=>(k.other i hi).trans (h.other i hi),Nat.le_trans h.drawn k.drawn⟩
theorem Oth.drew (b:Nat) (w:World):Oth b w w.drew:=⟨rfl,rfl,rfl,rfl,fun _ _=>rfl,Nat.le_succ _⟩
theorem Oth.cell {b:Nat} {w w':World} (h:Oth b w w') {a:Addr} (ha:a.block≠b):w'.cell? a=w.cell? a:=World.cell?_of_block (h.other _ ha)
section
variable {P:Program}
end
end Go.Proofs.YtfkfficabeclcaaGreatDoor

namespace Go.Proofs.YtfkfficabeclcaaGreatDoor
open Go Go.RowKit Go.Sort Sx
end Go.Proofs.YtfkfficabeclcaaGreatDoor

namespace Go.Proofs.YtfkfficabeclcaaGreatDoor
open Go Go.RowKit Go.Sort Sx
end Go.Proofs.YtfkfficabeclcaaGreatDoor

namespace Go.Proofs.YtfkfficabeclcaaGreatDoor
open Go Go.RowKit Go.Sort Sx
end Go.Proofs.YtfkfficabeclcaaGreatDoor

namespace Go.Proofs.YtfkfficabeclcaaGreatDoor
open Go Go.RowKit Go.Sort Sx
structure KeepT (n0:Nat) (W W':World):Prop where
 size:W.heap.size≤W'.heap.size
 low:∀ k,k<n0→W'.heap[k]? = W.heap[k]?
 pt:∀ (k:Nat) (cs:Array Value) (T:TypeId) (fr:Nat × Nat),W.heap[k]? = some (Obj.cells cs T fr)→(T=43∨T=39)→W'.heap[k]? = W.heap[k]?
theorem KeepT.refl (n0:Nat) (W:World):KeepT n0 W W:=⟨Nat.le_refl _,fun _ _=>rfl,fun _ _ _ _ _ _=>rfl⟩
theorem KeepT.trans {n0:Nat} {A B C:World} (h:KeepT n0 A B) (k:KeepT n0 B C):KeepT n0 A C :=
 ⟨Nat.le_trans h.size k.size,fun i hi=>(k.low i hi).trans (h.low i hi),fun i cs T fr hi hT=>by
  have e:=h.pt i cs T fr hi hT
  exact (k.pt i cs T fr (e.trans hi) hT).trans e⟩
theorem KeepT.alloc {n0:Nat} (W:World) (o:Obj) (hn:n0≤W.heap.size):KeepT n0 W (W.alloc o) :=
 ⟨by simp,fun k hk=>Below.heap_alloc W o k (by omega),fun k cs T fr h _=>Below.heap_alloc W o k (Array.getElem?_eq_some_iff.1 h).1⟩
def Pt.v (p:Pt):Value:=.agg #[.int .i64 p.id,.int .i64 p.a,.int .i64 p.b]
def pairsOf:List Pt→List (Pt × Pt)
 | []=>[]
 | p::l=>l.map (fun q=>(p,q))++pairsOf l
def preP:List Pt→Nat→List (Pt × Pt)
 | _,0=>[]
 | [],_=>[]
 | p::l,i+1=>l.map (fun q=>(p,q))++preP l i
theorem preP_succ:∀ {l:List Pt} {i:Nat} (h:i<l.length),preP l (i+1)=preP l i++(l.drop (i+1)).map (fun q=>(l[i],q))
 | p::l,0,h=>by cases l<;>simp [preP]
 | p::l,i+1,h=>by
  have ih:=preP_succ (l:=l) (i:=i) (by simpa using h)
  rw [preP,ih,preP]
  simp
theorem preP_all:∀ (l:List Pt),preP l l.length=pairsOf l
 | []=>rfl
 | p::l=>by rw [List.length_cons,preP,pairsOf,preP_all l]
theorem preP_split:∀ {l:List Pt} {i:Nat},i≤l.length→pairsOf l=preP l i++pairsOf (l.drop i)
 | l,0,_=>by cases l<;>simp [preP]
 | [],_+1,h=>by simp at h
 | p::l,i+1,h=>by
  have:=preP_split (l:=l) (i:=i) (by simpa using h)
  simp only [preP,pairsOf,List.drop_succ_cons,List.append_assoc,← this]
theorem preP_in {l:List Pt} {i j:Nat} (hi:i<l.length) (hj:i+1+j<l.length):∃ post,(preP l i++((l.drop (i+1)).take j).map (fun q=>(l[i],q)))++(l[i],l[i+1+j])::post=pairsOf l:=by
 refine ⟨(l.drop (i+1+j+1)).map (fun q=>(l[i],q))++pairsOf (l.drop (i+1)),?_⟩
 have e1:=preP_split (l:=l) (i:=i) (by omega)
 have e2:l.drop i=l[i]::l.drop (i+1):=List.drop_eq_getElem_cons hi
 have e3:l.drop (i+1)=(l.drop (i+1)).take j++l[i+1+j]::l.drop (i+1+j+1):=by
  conv=>lhs;rw [← List.take_append_drop j (l.drop (i+1)),List.drop_drop,List.drop_eq_getElem_cons hj]
 have e4:(l.drop (i+1)).map (fun q=>(l[i],q))=((l.drop (i+1)).take j).map (fun q=>(l[i],q))++(l[i],l[i+1+j])::(l.drop (i+1+j+1)).map (fun q=>(l[i],q)):=by
  conv=>lhs;rw [e3]
  rw [List.map_append,List.map_cons]
 rw [e1,e2,pairsOf,e4]
 simp only [List.append_assoc,List.cons_append]
def SeqAll {α:Type} (n:Nat) (P:Program) (g:Nat) (lb:Array Value) (encs:α→Array Value) (Kp:World→World→Prop) (xs:List α) (w:World):Prop :=
 ∀ (lp:Nat) (J:List α→World→Prop) (W:World),Below w.heap.size w W→AbidesFrom W.heap.size J →
  (∀ pre x post W1,pre++x::post=xs→J pre W1→YieldAt Fence.wide (n-1) P lp (encs x) W1 fun e W'=>e=.returned (.bool true)∧J (pre++[x]) W'∧Kp W1 W')→J [] W →
  CallsIn Fence.wide n P g (#[.func (.yield lp) #[] #[]]++lb) W fun e W'=>(∃ v,e=.returned v)∧J xs W'
set_option maxRecDepth 100000 in
set_option maxHeartbeats 4000000 in
theorem pairs1_stops (l:List Pt) (n0 n c:Nat) (fv:Value) (w:World) (hl:l.length≤1000) (hbox:w.heap[c]? = some (.cells #[fv] 39 (0,0))) (hrep:Rep w (fun b=>n0≤b) (.list 3 (l.map Pt.c)) fv) (hn0:n0≤w.heap.size) (hn:1≤n) :
  SeqAll n Tryz.prog 237 #[.pointer (some ⟨c,0,none⟩)] (fun pq:Pt × Pt=>#[pq.1.v,pq.2.v]) (KeepT n0) (pairsOf l) w:=fun lp J W hbel hJ hY h0=>by
 have hcw:c<w.heap.size:=(Array.getElem?_eq_some_iff.1 hbox).1
 have hKW:∀ {k},k<w.heap.size→W.heap[k]? = w.heap[k]? := fun hk=>hbel.block _ hk
 have hbx:∀ {W':World},KeepT n0 W W'→W'.cell? ⟨c,0,none⟩=some fv:=fun hk=>by
  have e:=(hk.pt c _ _ _ ((hKW hcw).trans hbox) (.inr rfl)).trans ((hKW hcw).trans hbox)
  simp [World.cell?,e]
 generalize hd:D.list 3 (l.map Pt.c)=d at hrep
 cases hrep with
 | nil k x cp hm hx =>
  injection hd with hk hd
  subst hk
  have hl0:l=[]:=List.map_eq_nil_iff.1 hd
  subst hl0
  have hb0:=hbx (KeepT.refl n0 W)
  refine callsIn_of_wp Tryz.func237 rfl trivial ?_ rfl
  simp only [Tryz.ntmps237,List.size_toArray,List.length_cons,List.length_nil,Nat.reduceAdd,Nat.reduceSub,Array.replicate_succ,Array.replicate_zero,List.push_toArray,List.append_toArray,List.nil_append,List.cons_append]
  gi_wp2
  gi_loopw [10] (fun x W'=>x=.int .i64 0∧W'=W) (fun _ _=>0)
  case atStart=>exact ⟨rfl,rfl⟩
  case round =>
   obtain ⟨rfl,rfl⟩:=hrel
   gi_wp2
   go_end0
   exact ⟨⟨_,rfl⟩,h0⟩
 | @list b off cap k ll vs h1 h2 h3 h4 h5 h6 h7 =>
  injection hd with hk hd
  subst hk hd
  have hll:(l.map Pt.c).length=l.length:=List.length_map ..
  rw [hll] at h1 hbx
  have h3:b<n0:=Nat.lt_of_not_le h3
  have cell:∀ {W':World},KeepT n0 W W'→∀ (i:Nat) (h:i<l.length),W'.cell? ⟨b,off+i*3,none⟩=some (.int .i64 l[i].id)∧W'.cell? ⟨b,off+(i*3+1),none⟩=some (.int .i64 l[i].a)∧W'.cell? ⟨b,off+(i*3+2),none⟩=some (.int .i64 l[i].b):=fun {W'} hk i h=>by
   have hi:i<(l.map Pt.c).length:=by rw [hll];exact h
   have e:W'.heap[b]? = w.heap[b]? := (hk.low b h3).trans (hKW h4)
   have key:∀ (j:Nat) (v:Value) (hj:j<3),(l.map Pt.c)[i][j]'(by rw [h5 _ (List.getElem_mem hi)];exact hj)=.v v→W'.cell? ⟨b,off+(i*3+j),none⟩=some v:=fun j v hj hv=>by
    rw [World.cell?_of_block (w:=w) e,← Nat.add_assoc,h6 i j hi hj]
    have:=h7 i j hi (by rw [h5 _ (List.getElem_mem hi)];exact hj)
    rw [hv] at this
    cases this;rfl
   refine ⟨by have:=key 0 (.int .i64 l[i].id) (by omega) (by simp [Pt.c]);rwa [Nat.add_zero] at this,key 1 _ (by omega) (by simp [Pt.c]),key 2 _ (by omega) (by simp [Pt.c])⟩
  have hb0:=hbx (KeepT.refl n0 W)
  clear h6 h7
  refine callsIn_of_wp Tryz.func237 rfl trivial ?_ rfl
  simp only [Tryz.ntmps237,List.size_toArray,List.length_cons,List.length_nil,Nat.reduceAdd,Nat.reduceSub,Array.replicate_succ,Array.replicate_zero,List.push_toArray,List.append_toArray,List.nil_append,List.cons_append]
  gi_wp2
  gi_loopw [10] (fun x W'=>∃ i:Nat,x=.int .i64 i∧i≤l.length∧KeepT n0 W W'∧J (preP l i) W') (fun x _=>l.length-(intOf x).toNat)
  case atStart=>exact ⟨0,rfl,Nat.zero_le _,KeepT.refl n0 W,by cases l<;>exact h0⟩
  case round =>
   obtain ⟨i,rfl,hi,hkt,hJi⟩:=hrel
   obtain ⟨wo,hwo⟩:∃ wo,wo=wr:=⟨_,rfl⟩
   subst hwo
   rcases Nat.lt_or_ge i l.length with hlt|hge
   ·obtain ⟨q0,q1,q2⟩:=cell hkt i hlt
    have hb1:=hbx hkt
    have hsz:n0≤wo.heap.size:=Nat.le_trans (Nat.le_trans hn0 hbel.size) hkt.size
    have hk2:=hkt.trans (KeepT.alloc wo (.cells #[.int .i64 l[i].id,.int .i64 l[i].a,.int .i64 l[i].b] 43) hsz)
    have hb2:=hbx hk2
    have hw1:IntKind.i64.wrap ((i:Int)+1)=(i:Int)+1:=by rw [IntKind.wrap_i64];omega
    have hp1:(0:Int)≤(i:Int)+1:=by omega
    have hp2:((i:Int)+1).toNat=i+1:=by omega
    have hp3:(i:Int)+1≤(l.length:Int):=by omega
    have hp4:i+1≤l.length:=by omega
    have hgr:wo.grownBy (wo.alloc (.cells #[.int .i64 l[i].id,.int .i64 l[i].a,.int .i64 l[i].b] 43)) none:=World.grownBy_alloc wo _ none
    have hJ2:=hJ _ _ _ none hJi hgr (fun r e=>by cases e)
    have hpb:(wo.alloc (.cells #[.int .i64 l[i].id,.int .i64 l[i].a,.int .i64 l[i].b] 43)).heap[wo.heap.size]? = some (.cells #[.int .i64 l[i].id,.int .i64 l[i].a,.int .i64 l[i].b] 43 (0,0)):=World.alloc_heap_new wo _
    by_cases hcap:cap=i+1
    ·have hz:l.length-(i+1)=0:=by omega
     gi_wp2
     gi_loopw [21] (fun x W'=>x=.int .i64 0∧W'=wo.alloc (.cells #[.int .i64 l[i].id,.int .i64 l[i].a,.int .i64 l[i].b] 43)) (fun _ _=>0)
     case atStart=>exact ⟨rfl,rfl⟩
     case round =>
      obtain ⟨rfl,rfl⟩:=hrel
      gi_wp2
      go_roundw
      case rel=>exact ⟨i+1,by simp,hlt,hk2,by rw [preP_succ hlt,List.drop_eq_nil_of_le (by omega),List.map_nil,List.append_nil];exact hJ2⟩
      case measure=>show l.length-((i:Int)+1).toNat<l.length-((i:Int)).toNat;omega
    ·gi_wp2
     generalize hW2:wo.alloc (.cells #[.int .i64 l[i].id,.int .i64 l[i].a,.int .i64 l[i].b] 43)=W2 at *
     gi_loopw [21] (fun x W'=>∃ j:Nat,x=.int .i64 j∧j≤l.length-(i+1)∧KeepT n0 W2 W'∧J (preP l i++((l.drop (i+1)).take j).map (fun q=>(l[i],q))) W') (fun x _=>l.length-(i+1)-(intOf x).toNat)
     case atStart=>exact ⟨0,rfl,Nat.zero_le _,KeepT.refl n0 W2,by rw [List.take_zero,List.map_nil,List.append_nil];exact hJ2⟩
     case round =>
      obtain ⟨j,rfl,hj,hk3,hJ3⟩:=hrel
      have hsz3:n0≤wr.heap.size:=Nat.le_trans (Nat.le_trans hsz (by rw [← hW2];simp)) hk3.size
      rcases Nat.lt_or_ge j (l.length-(i+1)) with hjl|hjg
      ·have hij:i+1+j<l.length:=by omega
       obtain ⟨r0,r1,r2⟩:=cell (hk2.trans hk3) (i+1+j) hij
       obtain ⟨q,hq⟩:∃ q,l[i+1+j]=q:=⟨_,rfl⟩
       rw [hq] at r0 r1 r2
       have eo:(i+1+j)*3=(i+1)*3+j*3:=by rw [Nat.add_mul]
       rw [eo] at r0 r1 r2
       rw [Nat.add_assoc ((i+1)*3)] at r1 r2
       have hpb3:=(hk3.pt _ _ _ _ hpb (.inl rfl)).trans hpb
       have hpw:wo.heap.size<wr.heap.size:=(Array.getElem?_eq_some_iff.1 hpb3).1
       have hk4:=hk3.trans (KeepT.alloc wr (.cells #[.int .i64 q.id,.int .i64 q.a,.int .i64 q.b] 43) hsz3)
       have hJ4:=hJ _ _ _ none hJ3 (World.grownBy_alloc wr (.cells #[.int .i64 q.id,.int .i64 q.a,.int .i64 q.b] 43) none) (fun r e=>by cases e)
       have hpb4:=(hk4.pt _ _ _ _ hpb (.inl rfl)).trans hpb
       have p0:(wr.alloc (.cells #[.int .i64 q.id,.int .i64 q.a,.int .i64 q.b] 43)).cell? ⟨wo.heap.size,0,none⟩=some (.int .i64 l[i].id):=by simp only [World.cell?,hpb4];rfl
       have p1:(wr.alloc (.cells #[.int .i64 q.id,.int .i64 q.a,.int .i64 q.b] 43)).cell? ⟨wo.heap.size,1,none⟩=some (.int .i64 l[i].a):=by simp only [World.cell?,hpb4];rfl
       have p2:(wr.alloc (.cells #[.int .i64 q.id,.int .i64 q.a,.int .i64 q.b] 43)).cell? ⟨wo.heap.size,2,none⟩=some (.int .i64 l[i].b):=by simp only [World.cell?,hpb4];rfl
       obtain ⟨post,hpost⟩:=preP_in hlt hij
       rw [hq] at hpost
       obtain ⟨fn,tmps,assign,body,hy,hR⟩:=hY _ (l[i],q) post _ hpost hJ4
       dsimp only [Pt.v] at hy
       gi_wp2
       refine hR.mono ?_
       rintro e W3 ⟨rfl,hJ5,hk5⟩
       ·gi_wp2
        go_roundw
        case rel =>
         refine ⟨j+1,by simp,hjl,hk4.trans hk5,?_⟩
         rw [List.append_assoc] at hJ5
         have:((l.drop (i+1)).take (j+1)).map (fun q=>(l[i],q))=((l.drop (i+1)).take j).map (fun q=>(l[i],q))++[(l[i],q)]:=by
          rw [List.take_succ_eq_append_getElem (by rw [List.length_drop];exact hjl),List.map_append,List.getElem_drop,hq];rfl
         rw [this];exact hJ5
        case measure=>show l.length-(i+1)-((j:Int)+1).toNat<l.length-(i+1)-((j:Int)).toNat;omega
      ·have hje:j=l.length-(i+1):=by omega
       gi_wp2
       go_roundw
       case rel =>
        refine ⟨i+1,by simp,hlt,hk2.trans hk3,?_⟩
        rw [List.take_of_length_le (by rw [List.length_drop];omega)] at hJ3
        rw [preP_succ hlt];exact hJ3
       case measure=>show l.length-((i:Int)+1).toNat<l.length-((i:Int)).toNat;omega
   ·obtain rfl:i=l.length:=by omega
    gi_wp2
    go_end0
    exact ⟨⟨_,rfl⟩,by rw [← preP_all l];exact hJi⟩
 | _=>cases hd
end Go.Proofs.YtfkfficabeclcaaGreatDoor

namespace Go.Proofs.YtfkfficabeclcaaGreatDoor
open Go Go.RowKit Go.Sort Sx
theorem KeepT.putObj {n0:Nat} {W:World} {l:Nat} {o:Obj} (o':Obj) (hn:n0≤l) (hl:W.heap[l]? = some o) (ho:o.isCells=false):KeepT n0 W (W.putObj l o') :=
 ⟨by simp,fun k hk=>World.putObj_heap_other (by omega),fun k cs T fr h _=>World.putObj_heap_other fun e=>by
  subst e;rw [hl] at h;injection h with h;subst h;cases ho⟩
theorem wpIn_rangeAll {P:Program} {α:Type} {g:Operand} {ps:Array Tmp} {assign body:Code} {Q:Exit→Act→World→Prop} {a:Act} {w w0:World} {n n0:Nat} (h1:1≤n) {gf:Nat} {lb:Array Value} (hg:a.eval g=.func (.func gf) #[] lb)
  (eg:∀ args w,(callFunc gf args).run P w=.ok (.enter gf args) w) {encs:α→Array Value} {xs:List α} (hseq:SeqAll (n-1) P gf lb encs (KeepT n0) xs w0) (hb0:Below w0.heap.size w0 w) (hn0:n0≤w.heap.size) (hps:∀ x,(encs x).size=ps.size)
  (I:List α→World→Prop) (hI:OwnFrom w.heap.size I) (h0:I [] w) (As:List α→α→Act→World→Prop) (hAs:∀ x a₁,OwnFrom w.heap.size fun pre W=>As pre x a₁ W)
  (hassign:∀ (lp:Nat) (pre:List α) (x:α) (W:World),x∈xs→pre.length<xs.length→I pre W→assign.wpIn (Fence.wide.inRound lp) (n-1-1) P (Exit.then (fun a₁ W1=>KeepsOthers W W1∧KeepT n0 W W1∧As pre x a₁ W1) (fun _ _ _=>False)) { tmps:=(ps.zip (encs x)).foldl (fun t (p,v)=>t.setIfInBounds p v) a.tmps,defers:=[] } W)
  (hbody:∀ (lp:Nat) (pre:List α) (x:α) (a₁:Act) (W:World),As pre x a₁ W→body.wpIn (Fence.wide.inRound lp) (n-1-1) P (fun ex _ W'=>ex=.normal∧KeepsOthers W W'∧KeepT n0 W W'∧I (pre++[x]) W') a₁ W)
  (hdone:∀ (D:Nat) (W:World),w.heap.size≤D→I xs W→W.heap[D]? = some (.deferred (some []))→Q .normal { a with defers:={ target:=.collected D,args:=#[] }::a.defers } W) :
  (Code.rangeFunc g ps assign body).wpIn Fence.wide n P Q a w:=by
 refine wpIn_rangeFunc fun fn hfn => ?_
 obtain ⟨L,hL⟩:∃ L:LoopState→Option Code→Obj,L=fun st pe=>.loop { state:=st,pending:=pe,fn,tmps:=a.tmps,params:=ps,assign,body,defers:=w.heap.size }:=⟨_,rfl⟩
 have hLc:∀ st pe,(L st pe).isCells=false:=fun st pe=>by rw [hL];rfl
 have hLw:∀ st pe,(L st pe).isWalk=false:=fun st pe=>by rw [hL];rfl
 obtain ⟨W1,hW1⟩:∃ W1,W1=(w.alloc (.deferred (some []))).alloc (L .ready none):=⟨_,rfl⟩
 have s1:W1.heap.size=w.heap.size+2:=by rw [hW1];simp
 have g1:W1.heap[w.heap.size+1]? = some (L .ready none):=by rw [hW1];have:=World.alloc_heap_new (w.alloc (.deferred (some []))) (L .ready none);rwa [World.size_alloc] at this
 have g2:W1.heap[w.heap.size]? = some (.deferred (some [])):=by rw [hW1];exact (Below.heap_alloc _ _ _ (by simp)).trans (World.alloc_heap_new w _)
 have i1:I [] W1:=by rw [hW1];exact hI.alloc _ (hI.alloc _ h0)
 have b1:Below w0.heap.size w0 W1:=by
  rw [hW1];exact hb0.trans ((((Below.refl _ w).alloc (Nat.le_refl _) _).alloc (by simp) _).mono hb0.size)
 refine ⟨w.heap.size+1,[{ target:=.collected w.heap.size,args:=#[] }],W1,{ target:=.fn (.func gf) lb,args:=#[.func (.yield (w.heap.size+1)) #[] #[]] },W1,gf,#[.func (.yield (w.heap.size+1)) #[] #[]]++lb,W1,?_,?_,fun f' _=>trivial,?_,fun _=>h1,?_⟩
 ·have:=run_enterLoop_outer (P:=P) (w:=w) fn a.tmps ps assign body
  rw [hW1,hL];exact this
 ·simp only [resolve,hg];simp [go_sem]
 ·simp [invoke,go_sem,eg]
 have keep:∀ {A B:World} {row:Option Nat},A.grownBy B row→(∀ r,row=some r→W1.heap.size≤r)→∀ k o,k<W1.heap.size→A.heap[k]? = some o→B.heap[k]? = some o:=fun hg hr k o hk h =>
  (hg.block k (Array.getElem?_eq_some_iff.1 h).1 fun e=>by have:=hr k e.symm;omega).trans h
 refine (hseq (w.heap.size+1) (fun pre W=>I pre W∧W.heap[w.heap.size+1]? = some (L .ready none)∧W.heap[w.heap.size]? = some (.deferred (some []))) W1 b1
  (fun s A B row hs hg' hr=>⟨hI s A B row hs.1 hg' (fun r e=>⟨by have:=(hr r e).1;omega,by obtain ⟨_,o,h2,h3⟩:=hr r e;exact ⟨o,h2,Obj.not_cells_of_walk h3⟩⟩),keep hg' (fun r e=>(hr r e).1) _ _ (by omega) hs.2.1,keep hg' (fun r e=>(hr r e).1) _ _ (by omega) hs.2.2⟩)
  ?_ ⟨i1,g1,g2⟩).mono ?_
 ·rintro pre x post W hpost ⟨hi,hl,hk⟩
  have hxs:x∈xs:=by rw [← hpost];simp
  have hpl:pre.length<xs.length:=by rw [← hpost];simp
  have hlw:w.heap.size+1<W.heap.size:=(Array.getElem?_eq_some_iff.1 hl).1
  have hl':W.heap[w.heap.size+1]? = some (.loop { state:=.ready,pending:=none,fn,tmps:=a.tmps,params:=ps,assign,body,defers:=w.heap.size }):=by rw [hl,hL]
  have hy:=run_yield (P:=P) (args:=encs x) hl' (hps x)
  refine ⟨fn,_,assign,body,hy,roundIn_of_wpIn hfn (wpIn_mono (hassign _ pre x W hxs hpl hi) ?_)⟩
  rintro e a₁ W2 hp
  cases e with
  | normal =>
   obtain ⟨k1,k2,k3⟩:=hp
   have hl2:=k1.same _ _ hl (hLc _ _)
   have hk2:=k1.same _ _ hk rfl
   have hl2':W2.heap[w.heap.size+1]? = some (.loop { state:=.ready,pending:=none,fn,tmps:=a.tmps,params:=ps,assign,body,defers:=w.heap.size }):=by rw [hl2,hL]
   have hb:=run_beginRound (P:=P) hl2' rfl
   obtain ⟨W3,hW3⟩:∃ W3,W3=W2.putObj (w.heap.size+1) (L .busy none):=⟨_,rfl⟩
   have hl3:W3.heap[w.heap.size+1]? = some (L .busy none):=by rw [hW3];exact World.putObj_heap_same (Array.getElem?_eq_some_iff.1 hl2).1
   have hk3:W3.heap[w.heap.size]? = some (.deferred (some [])):=by rw [hW3];exact (World.putObj_heap_other (by omega)).trans hk2
   have ka3:As pre x a₁ W3:=by rw [hW3];exact (hAs x a₁).putObj _ k3 (by omega) hl2 (hLc _ _)
   have kt3:KeepT n0 W W3:=k2.trans (by rw [hW3];exact KeepT.putObj _ (by omega) hl2 (hLc _ _))
   refine ⟨W3,by rw [hW3,hL];exact hb,wpIn_mono (hbody _ pre x a₁ W3 ka3) ?_⟩
   rintro e a₂ W4 ⟨rfl,q1,q2,q3⟩
   have hl4:=q1.same _ _ hl3 (hLc _ _)
   have hk4:=q1.same _ _ hk3 rfl
   have hl4':W4.heap[w.heap.size+1]? = some (.loop { state:=.busy,pending:=none,fn,tmps:=a.tmps,params:=ps,assign,body,defers:=w.heap.size }):=by rw [hl4,hL]
   have he:=run_endRound (P:=P) none hl4'
   refine ⟨_,_,he,rfl,⟨hI.putObj _ q3 (by omega) hl4 (hLc _ _),?_,(World.putObj_heap_other (by omega)).trans hk4⟩,(kt3.trans q2).trans (KeepT.putObj _ (by omega) hl4 (hLc _ _))⟩
   rw [World.putObj_heap_same (Array.getElem?_eq_some_iff.1 hl4).1,hL];rfl
  | ret=>exact hp.elim
  | exit id=>exact hp.elim
  | goto t=>exact hp.elim
  | panic ch=>exact hp.elim
  | outgrown=>exact hp.elim
 ·rintro e W2 ⟨⟨v,rfl⟩,hi,hl,hk⟩
  have hl':W2.heap[w.heap.size+1]? = some (.loop { state:=.ready,pending:=none,fn,tmps:=a.tmps,params:=ps,assign,body,defers:=w.heap.size }):=by rw [hl,hL]
  exact ⟨none,_,run_endLoop (P:=P) hl' (by simp),hdone _ _ (Nat.le_refl _) (hI.putObj _ hi (by omega) hl (hLc _ _)) ((World.putObj_heap_other (by omega)).trans hk)⟩
theorem mpairs_in (n:Nat) (fv:Value) (w:World) (h1:fv.oneCell'=true):CallsIn Fence.wide n Tryz.prog 202 #[.agg #[fv]] w fun e w'=>e=.returned (.func (.func 237) #[] #[.pointer (some ⟨w.heap.size,0,none⟩)])∧w'=w.alloc (.cells #[fv] 39):=by
 refine callsIn_of_wp Tryz.func202 rfl trivial ?_ rfl
 simp only [Tryz.ntmps202,List.size_toArray,List.length_cons,List.length_nil,Nat.reduceAdd,Nat.reduceSub,Array.replicate_succ,Array.replicate_zero,List.push_toArray,List.append_toArray,List.nil_append,List.cons_append]
 gi_wp2
 first|go_ret|refine bodyPost_ret (results_tmp rfl _ _ _) rfl ?_|refine bodyPost_end (results_tmp rfl _ _ _) rfl ?_
 exact ⟨rfl,rfl⟩
end Go.Proofs.YtfkfficabeclcaaGreatDoor
