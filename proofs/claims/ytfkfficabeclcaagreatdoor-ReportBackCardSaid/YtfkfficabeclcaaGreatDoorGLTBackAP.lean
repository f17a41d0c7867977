import Derived.Test.YtfkfficabeclcaaGreatDoorGLTBackAO
import Derived.Test.YtfkfficabeclcaaGreatDoorGLTBackAI
import Derived.Test.YtfkfficabeclcaaGreatDoorGLTBackAN
import Derived.Laws.Strings
import Derived.Laws.Concat
import Derived.Lib.Strings
import Derived.Test.YtfkfficabeclcaaGreatDoorRows
import Derived.Test.YtfkfficabeclcaaGreatDoorTie
import Derived.Test.YtfkfficabeclcaaGreatDoorCards
import Derived.Test.YtfkfficabeclcaaGreatDoorGLTBackAJ
import Derived.Test.YtfkfficabeclcaaGreatDoorGLTBackAL
import Derived.Deep.DeepHandedRow
import Derived.Deep.DeepLaidRun
import Derived.LaidSub
import Derived.SevenTiedAt
import Derived.Stop.LaidErr
import Derived.Shelf.SlSortCmp.WholeK
import Derived.Shelf.SlSortCmp.NoneTotal
import Derived.Ground.SlsfProg
import Derived.Test.YtfkfficabeclcaaGreatDoorProg
set_option linter.all false
namespace Go.Proofs.YtfkfficabeclcaaGreatDoor
open Go.RowKit Go.Sort Sx
abbrev ownL (k:Nat) (l:List (List D)):OwnR:=⟨.c (.one (.list k l)),0,0,k,l⟩
theorem clonePt_own (l:List (List D)) (hl:l.length≤1000000):FnOwn Tryz.prog 57 [.one (.list 3 l)] (ownL 3 l):=by
 cases l with
 | nil =>
  refine own_list ?_ ?_
  ·refine fn_own (by kernel_rfl) (ty_okK [7] [] [] []) Tryz.func57 rfl (fun _ _=>Tryz.call57 _ _) rfl ?_
   intro hw
   repeat' ((conv=>whnf);first|(with_reducible first|refine br_t ?_|refine br_f ?_|refine za ?_|refine zg ?_|refine zo ?_)|refine zp ?_|refine zq ?_|(with_reducible first|refine bc (fun h => ?_) (fun h => ?_)|refine zt ?_|refine zf ?_|refine br_i (fun h => ?_) (fun h => ?_))|refine zg ?_|refine zi ?_|refine zb ?_|refine zl ?_)
   all_goals conv=>whnf
   exact .inr ⟨100,_,_,rfl,rfl,rfl,rfl,rfl⟩
  ·refine fn_own (by kernel_rfl) (ty_okK [7] [] [] []) Tryz.func57 rfl (fun _ _=>Tryz.call57 _ _) rfl ?_
   intro hw
   repeat' ((conv=>whnf);first|(with_reducible first|refine br_t ?_|refine br_f ?_|refine za ?_|refine zg ?_|refine zo ?_)|refine zp ?_|refine zq ?_|(with_reducible first|refine bc (fun h => ?_) (fun h => ?_)|refine zt ?_|refine zf ?_|refine br_i (fun h => ?_) (fun h => ?_))|refine zg ?_|refine zi ?_|refine zb ?_|refine zl ?_)
   all_goals conv=>whnf
   exact .inl ⟨5,1,_,rfl,rfl,rfl⟩
 | cons x xs =>
  refine fn_own (by kernel_rfl) (ty_okK [7] [] [] []) Tryz.func57 rfl (fun _ _=>Tryz.call57 _ _) rfl ?_
  intro hw
  simp only [List.length_cons] at hl
  repeat' ((conv=>whnf);first|(with_reducible first|refine br_t ?_|refine br_f ?_|refine za ?_|refine zg ?_|refine zo ?_)|refine zp ?_|refine zq ?_|(with_reducible first|refine bc (fun h => ?_) (fun h => ?_)|refine zt ?_|refine zf ?_|refine br_i (fun h => ?_) (fun h => ?_))|refine zg ?_|refine zi ?_|refine zb ?_|refine zl ?_)
  all_goals conv=>whnf
  exact .inl ⟨5,1,_,rfl,rfl,rfl⟩
def pos:List Pt→Int→Nat
 | [],_=>0
 | p::l,id=>if p.id<id then pos l id+1 else 0
def has (l:List Pt) (id:Int):Bool:=l.any fun p=>p.id == id
theorem incr_lt {l:List Pt} (h:incr l=true):∀ (j i:Nat) (hj:j<l.length) (hij:i<j),l[i].id<l[j].id:=by
 intro j
 induction j with
 | zero=>intro i _ h;omega
 | succ j ih =>
  intro i hj hij
  have h1:=incr_iff.1 h j hj
  rcases Nat.lt_or_ge i j with h2|h2
  ·have:=ih i (by omega) h2;omega
  ·have:i=j:=by omega
   subst this;exact h1
theorem incr_tail {p:Pt} {l:List Pt} (h:incr (p::l)=true):incr l=true:=by
 cases l with
 | nil=>rfl
 | cons q l=>rw [incr,Bool.and_eq_true] at h;exact h.2
theorem pos_eq:∀ {l:List Pt} {id:Int} {i:Nat},i≤l.length→(∀ k (h:k<l.length),k<i→l[k].id<id)→(∀ k (h:k<l.length),i≤k→id≤l[k].id)→pos l id=i
 | [],id,i,hi,_,_=>by simp at hi;simp [pos,hi]
 | p::l,id,0,hi,h1,h2=>by
  have:=h2 0 (by simp) (Nat.le_refl _)
  simp at this
  rw [pos,if_neg (by omega)]
 | p::l,id,i+1,hi,h1,h2=>by
  have:=h1 0 (by simp) (by omega)
  simp at this
  rw [pos,if_pos this,pos_eq (by simpa using hi) (fun k h hk=>h1 (k+1) (by simpa using h) (by omega)) (fun k h hk=>h2 (k+1) (by simpa using h) (by omega))]
theorem pos_spec:∀ {l:List Pt} {id:Int},incr l=true→(∀ k (h:k<l.length),k<pos l id→l[k].id<id)∧∀ k (h:k<l.length),pos l id≤k→id≤l[k].id
 | [],id,_=>⟨fun k h=>by simp at h,fun k h=>by simp at h⟩
 | p::l,id,hs=>by
  rw [pos]
  split
  ·rename_i hp
   obtain ⟨h1,h2⟩:=pos_spec (id:=id) (incr_tail hs)
   refine ⟨fun k h hk => ?_,fun k h hk => ?_⟩
   ·cases k with
    | zero=>exact hp
    | succ k=>simpa using h1 k (by simpa using h) (by omega)
   ·cases k with
    | zero=>omega
    | succ k=>simpa using h2 k (by simpa using h) (by omega)
  ·rename_i hp
   refine ⟨fun k h hk=>by omega,fun k h hk => ?_⟩
   cases k with
   | zero=>simp;omega
   | succ k =>
    have:=incr_lt hs (k+1) 0 h (by omega)
    simp at this ⊢;omega
theorem has_pos {l:List Pt} {id:Int} (hs:incr l=true):has l id=true↔∃ h:pos l id<l.length,l[pos l id].id=id:=by
 unfold has
 rw [List.any_eq_true]
 obtain ⟨h1,h2⟩:=pos_spec (id:=id) hs
 constructor
 ·rintro ⟨p,hp,he⟩
  obtain ⟨k,hk,rfl⟩:=List.getElem_of_mem hp
  have he:l[k].id=id:=by simpa using he
  have hle:pos l id≤k:=by
   rcases Nat.lt_or_ge k (pos l id) with h|h
   ·have:=h1 k hk h;omega
   ·exact h
  have hlt:pos l id<l.length:=by omega
  refine ⟨hlt,?_⟩
  have:=h2 (pos l id) hlt (Nat.le_refl _)
  rcases Nat.eq_or_lt_of_le hle with h|h
  ·rw [getElem_congr rfl h];exact he
  ·have:=incr_lt hs k (pos l id) hk h;omega
 ·rintro ⟨h,he⟩
  exact ⟨_,List.getElem_mem h,by simpa using he⟩
theorem mid_eq (i j:Nat) (h:i+j≤9223372036854775807):IntKind.i64.wrap ((IntKind.u64.wrap (IntKind.i64.wrap ((i:Int)+(j:Int)))).fdiv (2 ^ (min (Int.toNat 1) (IntKind.bits .u64))))=(((i+j) / 2:Nat):Int):=by
 have e1:(2:Int) ^ (min (Int.toNat 1) (IntKind.bits .u64))=2:=rfl
 have e2:IntKind.u64.wrap (((i+j:Nat):Int))=((i+j:Nat):Int):=by rw [IntKind.wrap_u64];omega
 have e3:IntKind.i64.wrap ((i:Int)+(j:Int))=((i+j:Nat):Int):=by rw [IntWalk.i64_in _ (by omega)];omega
 rw [e3,e2,e1,Int.fdiv_eq_ediv_of_nonneg _ (by omega)]
 have e4:((i+j:Nat):Int) / 2=(((i+j) / 2:Nat):Int):=by omega
 rw [e4,IntWalk.i64_in _ (by omega)]
theorem ffind1_fn (p:Pt) (id:Int):FnOK Tryz.prog 178 [p.dc,.one (i64 id)] (ret1 (cmpN p.id id)):=by
 refine fn_ok (by kernel_rfl) ty_ok Tryz.func178 rfl (fun _ _=>Tryz.call178 _ _) rfl ?_
 intro hw
 repeat' ((conv=>whnf);first|(with_reducible first|refine br_t ?_|refine br_f ?_|refine za ?_|refine zg ?_|refine xi (cmpint_fn _ _) ?_)|refine zp ?_|refine zq ?_|(with_reducible first|refine bc (fun h => ?_) (fun h => ?_)|refine zt ?_|refine zf ?_|refine br_i (fun h => ?_) (fun h => ?_))|refine zg ?_|refine zi ?_|refine zb ?_)
 all_goals conv=>whnf
 all_goals rfl
theorem bsPt_fn (l:List Pt) (id:Int) (hs:incr l=true) (hl:l.length≤1000000):FnOK Tryz.prog 177 [.one (pts l),.one (i64 id),.one (.clo 178 [])] (.tup [.one (i64 (pos l id:Nat)),.one (bol (has l id))]):=by
 refine fn_ok (by kernel_rfl) ty_ok Tryz.func177 rfl (fun _ _=>Tryz.call177 _ _) rfl ?_
 intro hw
 repeat' ((conv=>whnf);first|(with_reducible first|refine br_t ?_|refine br_f ?_|refine za ?_|refine zg ?_)|rw [List.length_map]|refine zp ?_|refine zq ?_|(with_reducible first|refine bc (fun h => ?_) (fun h => ?_)|refine zt ?_|refine zf ?_|refine br_i (fun h => ?_) (fun h => ?_))|refine zg ?_|refine zi ?_|refine zb ?_)
 refine loop_J (by kernel_rfl) ty_ok (σ:=Nat × Nat) (fun s=>[(9,sV (.int .i64 s.1)),(10,sV (.int .i64 s.2))]) (fun _=>[])
  (fun s=>s.1≤s.2∧s.2≤l.length∧(∀ k (h:k<l.length),k<s.1→l[k].id<id)∧∀ k (h:k<l.length),s.2≤k→id≤l[k].id) (fun s=>s.2-s.1) (0,l.length) ⟨by omega,by omega,fun k h hk=>absurd hk (Nat.not_lt_zero _),fun k h hk=>absurd h (by show ¬ k<l.length;exact Nat.not_lt.2 hk)⟩ ?_ ?_
 ·(conv=>whnf);exact zent
 rintro ⟨i,j⟩ ⟨h1,h2,h3,h4⟩
 simp only at h1 h2 h3 h4
 rcases Nat.lt_or_ge i j with hlt|hge
 ·have hm:(i+j) / 2<l.length:=by omega
  have hmid:=mid_eq i j (by omega)
  have hel:=pts_get hm
  have HC:=ffind1_fn l[(i+j) / 2] id
  rcases (show l[(i+j) / 2].id<id∨id≤l[(i+j) / 2].id by omega) with hc|hc
  ·have e:cmpN l[(i+j) / 2].id id = -1:=by unfold cmpN;rw [if_pos hc]
   rw [e] at HC
   repeat' ((conv=>whnf);first|(with_reducible first|refine br_t ?_|refine br_f ?_|refine za ?_|refine zg ?_)|rw [List.length_map]|rw [hmid]|refine zp ?_|refine zq ?_|(with_reducible first|refine bc (fun h => ?_) (fun h => ?_)|refine zt ?_|refine zf ?_|refine br_i (fun h => ?_) (fun h => ?_))|refine zg ?_|refine zi ?_|refine zb ?_)
   all_goals conv=>whnf
   refine ⟨((i+j) / 2+1,j),⟨by show _≤_;omega,h2,fun k h hk => ?_,h4⟩,?_,by show _-_<_-_;omega⟩
   ·rcases Nat.lt_or_ge k ((i+j) / 2) with h5|h5
    ·have:=incr_lt hs _ _ hm h5;omega
    ·have:k=(i+j) / 2:=by show k=_;simp only at hk;omega
     subst this;exact hc
   ·(conv=>whnf);exact zent
  ·have e:0≤cmpN l[(i+j) / 2].id id:=by unfold cmpN;split<;>(try split)<;>omega
   generalize cmpN l[(i+j) / 2].id id=c at HC e
   repeat' ((conv=>whnf);first|(with_reducible first|refine br_t ?_|refine br_f ?_|refine za ?_|refine zg ?_)|rw [List.length_map]|rw [hmid]|refine zp ?_|refine zq ?_|(with_reducible first|refine bc (fun h => ?_) (fun h => ?_)|refine zt ?_|refine zf ?_|refine br_i (fun h => ?_) (fun h => ?_))|refine zg ?_|refine zi ?_|refine zb ?_)
   all_goals conv=>whnf
   refine ⟨(i,(i+j) / 2),⟨by show _≤_;omega,by show _≤_;omega,h3,fun k h hk => ?_⟩,?_,by show _-_<_-_;omega⟩
   ·rcases Nat.lt_or_ge ((i+j) / 2) k with h5|h5
    ·have:=incr_lt hs k _ h h5;omega
    ·have:k=(i+j) / 2:=by simp only at hk;omega
     subst this;exact hc
   ·(conv=>whnf);exact zent
 ·have e:i=j:=by omega
  subst e
  have hp:=pos_eq (id:=id) h2 h3 h4
  rw [hp]
  have hh:=has_pos (id:=id) hs
  rcases Nat.lt_or_ge i l.length with hlt|hge2
  ·have hel:=pts_get hlt
   have HC:=ffind1_fn l[i] id
   have e2:has l id=decide (cmpN l[i].id id=0):=by
    rw [Bool.eq_iff_iff,hh,decide_eq_true_eq]
    have e3:cmpN l[i].id id=0↔l[i].id=id:=by
     unfold cmpN
     split
     ·exact ⟨fun h=>by omega,fun h=>by omega⟩
     ·split
      ·exact ⟨fun h=>by omega,fun h=>by omega⟩
      ·exact ⟨fun h=>by omega,fun h=>rfl⟩
    rw [e3]
    constructor
    ·rintro ⟨h,e⟩;exact (congrArg Pt.id (getElem_congr rfl hp.symm _)).trans e
    ·intro e;exact ⟨by omega,(congrArg Pt.id (getElem_congr rfl hp _)).trans e⟩
   rw [e2]
   generalize cmpN l[i].id id=c at HC
   by_cases hc:c=0
   all_goals
    repeat' ((conv=>whnf);first|(with_reducible first|refine br_t ?_|refine br_f ?_|refine za ?_|refine zg ?_)|rw [List.length_map]|refine zp ?_|refine zq ?_|(with_reducible first|refine bc (fun h => ?_) (fun h => ?_)|refine zt ?_|refine zf ?_|refine br_i (fun h => ?_) (fun h => ?_))|refine zg ?_|refine zi ?_|refine zb ?_)
    all_goals conv=>whnf
    all_goals simp [hc]
  ·have e2:has l id=false:=by
    rw [Bool.eq_false_iff,ne_eq,hh]
    rintro ⟨h,_⟩;omega
   rw [e2]
   repeat' ((conv=>whnf);first|(with_reducible first|refine br_t ?_|refine br_f ?_|refine za ?_|refine zg ?_)|rw [List.length_map]|refine zp ?_|refine zq ?_|(with_reducible first|refine bc (fun h => ?_) (fun h => ?_)|refine zt ?_|refine zf ?_|refine br_i (fun h => ?_) (fun h => ?_))|refine zg ?_|refine zi ?_|refine zb ?_)
   all_goals conv=>whnf
   all_goals rfl
end Go.Proofs.YtfkfficabeclcaaGreatDoor

namespace Go.Proofs.YtfkfficabeclcaaGreatDoor
open Go.RowKit Go.Sort Sx
abbrev retIB (i:Int) (b:Bool):DV:=.tup [.one (i64 i),.one (bol b)]
theorem fchk_ok {l:List Pt} (h:fchk l=0):l.length≤64∧(∀ p∈l,p.chk=0)∧incr l=true:=by
 unfold fchk at h
 split at h
 ·omega
 ·split at h
  ·rename_i h1 h2
   split at h
   ·rename_i h3
    exact ⟨by omega,fun p hp=>by simpa using List.all_eq_true.1 h2 p hp,h3⟩
   ·omega
  ·omega
theorem ffind_fn (l:List Pt) (id:Int) (hs:incr l=true) (hl:l.length≤1000000):FnOK Tryz.prog 124 [fld l,.one (i64 id)] (retIB (pos l id:Nat) (has l id)):=by
 refine fn_ok (by kernel_rfl) ty_ok Tryz.func124 rfl (fun _ _=>Tryz.call124 _ _) rfl ?_
 intro hw
 have HC:=bsPt_fn l id hs hl
 exact zw
def placeV (l:List Pt) (id:Int):Int × Int:=if fchk l=0 then (if has l id then ((pos l id:Nat),0) else (0,6)) else (0,fchk l)
theorem fplace_fn (l:List Pt) (id:Int):FnOK Tryz.prog 70 [fld l,.one (i64 id)] (ret2 (placeV l id)):=by
 refine fn_ok (by kernel_rfl) ty_ok Tryz.func70 rfl (fun _ _=>Tryz.call70 _ _) rfl ?_
 intro hw
 have H1:=fCheck_fn l
 unfold placeV
 by_cases h0:fchk l=0
 ·obtain ⟨k1,k2,k3⟩:=fchk_ok h0
  have H2:=ffind_fn l id k3 (by omega)
  rw [h0] at H1
  rw [if_pos h0]
  cases hh:has l id<;>rw [hh] at H2
  all_goals
   exact zw
 ·rw [if_neg h0]
  exact zw
def great (l:List Pt):Bool:=decide (16<l.length∧l.length<64∨70<l.length)
theorem rfGreat_fn (l:List Pt):FnOK Tryz.prog 25 [fld l] (.c (.one (bol (great l)))):=by
 refine fn_ok (by kernel_rfl) ty_ok Tryz.func25 rfl (fun _ _=>Tryz.call25 _ _) rfl ?_
 intro hw
 simp only [WDCs,WDC,WDs] at hw
 obtain ⟨w1,w2⟩:=wd_pts hw.1.1
 unfold great
 repeat' ((conv=>whnf);first|(with_reducible first|refine br_t ?_|refine br_f ?_|refine za ?_|refine zg ?_)|rw [List.length_map]|refine zp ?_|refine zq ?_|(with_reducible first|refine bc (fun h => ?_) (fun h => ?_)|refine zt ?_|refine zf ?_|refine br_i (fun h => ?_) (fun h => ?_))|refine zg ?_|refine zi ?_|refine zb ?_)
 all_goals conv=>whnf
 all_goals
  refine r_bool ?_
  first
  | rfl
  | (simp only [decide_eq_decide,Bool.true_eq,Bool.false_eq,decide_eq_true_eq,decide_eq_false_iff_not];omega)
  | (rw [eq_comm];simp only [decide_eq_decide,decide_eq_true_eq,decide_eq_false_iff_not];omega)
end Go.Proofs.YtfkfficabeclcaaGreatDoor

namespace Go.Proofs.YtfkfficabeclcaaGreatDoor
open Go.RowKit Go.Sort Sx
theorem Pt.eq_iff {p q:Pt}:p=q↔p.id=q.id∧p.a=q.a∧p.b=q.b:=by
 cases p;cases q;simp
theorem take_all_eq {α:Type} {a b:List α} {i:Nat} (h:a.take i=b.take i) (hl:a.length=b.length) (hi:a.length≤i):a=b:=by
 rw [List.take_of_length_le hi,List.take_of_length_le (by omega)] at h;exact h
theorem take_succ_eq {α:Type} {a b:List α} {i:Nat} (h:a.take i=b.take i) (h1:i<a.length) (h2:i<b.length) (e:a[i]=b[i]):a.take (i+1)=b.take (i+1):=by
 rw [List.take_succ_eq_append_getElem h1,List.take_succ_eq_append_getElem h2,h,e]
theorem ne_of_get {α:Type} {a b:List α} {i:Nat} (h1:i<a.length) (h2:i<b.length) (e:a[i]≠b[i]):a≠b:=by
 rintro rfl;exact e rfl
structure Md where
 n:Int
 d:Int
 l:List Pt
 deriving DecidableEq,Inhabited
def Md.c (m:Md):List D:=[i64 m.n,i64 m.d,pts m.l]
abbrev Md.dc (m:Md):DC:=.agg [i64 m.n,i64 m.d,pts m.l]
def mchk (m:Md):Int:=if askd m.n m.d=0∧fchk m.l=0 then 0 else 8
theorem mchk_08 (m:Md):mchk m=0∨mchk m=8:=by unfold mchk;split<;>simp
theorem mchk_ok {m:Md} (h:mchk m=0):askd m.n m.d=0∧fchk m.l=0:=by
 unfold mchk at h
 split at h
 ·assumption
 ·omega
theorem mchk_orN (m:Md):mchk m=if orN (askd m.n m.d) (fchk m.l)=0 then 0 else 8:=by
 unfold mchk orN
 by_cases h:askd m.n m.d=0<;>simp [h]
theorem rfSame_fn (a b:List Pt):FnOK Tryz.prog 54 [fld a,fld b] (.c (.one (bol (decide (a=b))))):=by
 refine fn_ok (by kernel_rfl) ty_ok Tryz.func54 rfl (fun _ _=>Tryz.call54 _ _) rfl ?_
 intro hw
 simp only [WDCs,WDC,WDs] at hw
 obtain ⟨w1,_⟩:=wd_pts hw.1.1
 obtain ⟨w2,_⟩:=wd_pts hw.2.1.1
 clear hw
 by_cases h0:a.length=b.length
 ·repeat' ((conv=>whnf);first|(with_reducible first|refine br_t ?_|refine br_f ?_|refine za ?_|refine zg ?_)|rw [List.length_map]|refine zp ?_|refine zq ?_|(with_reducible first|refine bc (fun h => ?_) (fun h => ?_)|refine zt ?_|refine zf ?_|refine br_i (fun h => ?_) (fun h => ?_)|refine xi (pv_bool fun _=>nev43 _ _ _ _ _ _ _ _ _) ?_)|refine zg ?_|refine zi ?_|refine zb ?_)
  refine loop_J (by kernel_rfl) ty_ok (σ:=Nat) (fun i=>[(5,sV (.int .i64 i))]) (fun _=>[]) (fun i=>i≤a.length∧a.take i=b.take i) (fun i=>a.length-i) 0 ⟨by omega,rfl⟩ ?_ ?_
  ·(conv=>whnf);exact zent
  rintro i ⟨hi,hI⟩
  rcases Nat.lt_or_ge i a.length with hlt|hge
  ·have hb:i<b.length:=by omega
   have he1:=pts_get hlt
   have he2:=pts_get hb
   by_cases hc:a[i]=b[i]
   ·have hq:=Pt.eq_iff.1 hc
    repeat' ((conv=>whnf);first|(with_reducible first|refine br_t ?_|refine br_f ?_|refine za ?_|refine zg ?_)|rw [List.length_map]|refine zp ?_|refine zq ?_|(with_reducible first|refine bc (fun h => ?_) (fun h => ?_)|refine zt ?_|refine zf ?_|refine br_i (fun h => ?_) (fun h => ?_)|refine xi (pv_bool fun _=>nev43 _ _ _ _ _ _ _ _ _) ?_)|refine zg ?_|refine zi ?_|refine zb ?_)
    all_goals conv=>whnf
    refine ⟨i+1,⟨by omega,take_succ_eq hI hlt hb hc⟩,?_,by omega⟩
    (conv=>whnf);exact zent
   ·have hq:=mt Pt.eq_iff.2 hc
    rw [decide_eq_false (ne_of_get hlt hb hc)]
    repeat' ((conv=>whnf);first|(with_reducible first|refine br_t ?_|refine br_f ?_|refine za ?_|refine zg ?_)|rw [List.length_map]|refine zp ?_|refine zq ?_|(with_reducible first|refine bc (fun h => ?_) (fun h => ?_)|refine zt ?_|refine zf ?_|refine br_i (fun h => ?_) (fun h => ?_)|refine xi (pv_bool fun _=>nev43 _ _ _ _ _ _ _ _ _) ?_)|refine zg ?_|refine zi ?_|refine zb ?_)
    all_goals conv=>whnf
    all_goals rfl
  ·rw [decide_eq_true (take_all_eq hI h0 hge)]
   repeat' ((conv=>whnf);first|(with_reducible first|refine br_t ?_|refine br_f ?_|refine za ?_|refine zg ?_)|rw [List.length_map]|refine zp ?_|refine zq ?_|(with_reducible first|refine bc (fun h => ?_) (fun h => ?_)|refine zt ?_|refine zf ?_|refine br_i (fun h => ?_) (fun h => ?_)|refine xi (pv_bool fun _=>nev43 _ _ _ _ _ _ _ _ _) ?_)|refine zg ?_|refine zi ?_|refine zb ?_)
   all_goals conv=>whnf
   all_goals rfl
 ·rw [decide_eq_false (fun h=>h0 (congrArg List.length h))]
  repeat' ((conv=>whnf);first|(with_reducible first|refine br_t ?_|refine br_f ?_|refine za ?_|refine zg ?_)|rw [List.length_map]|refine zp ?_|refine zq ?_|(with_reducible first|refine bc (fun h => ?_) (fun h => ?_)|refine zt ?_|refine zf ?_|refine br_i (fun h => ?_) (fun h => ?_)|refine xi (pv_bool fun _=>nev43 _ _ _ _ _ _ _ _ _) ?_)|refine zg ?_|refine zi ?_|refine zb ?_)
  all_goals conv=>whnf
  all_goals rfl
theorem ofirst_fn (a b:Int):FnOK Tryz.prog 66 [.one (.list 1 [[i64 a],[i64 b]])] (ret1 (orN a b)):=by
 refine fn_ok (by kernel_rfl) ty_ok Tryz.func66 rfl (fun _ _=>Tryz.call66 _ _) rfl ?_
 intro hw
 repeat' ((conv=>whnf);first|(with_reducible first|refine br_t ?_|refine br_f ?_|refine za ?_|refine zg ?_)|refine zp ?_|refine zq ?_|(with_reducible first|refine bc (fun h => ?_) (fun h => ?_)|refine zt ?_|refine zf ?_|refine br_i (fun h => ?_) (fun h => ?_))|refine zg ?_|refine zi ?_|refine zb ?_)
 refine loop_J (by kernel_rfl) ty_ok (σ:=Nat) (fun i=>[(7,sV (.int .i64 i))]) (fun _=>[]) (fun i=>i=0∨(i=1∧a=0)∨(i=2∧a=0∧b=0)) (fun i=>2-i) 0 (.inl rfl) ?_ ?_
 ·(conv=>whnf);exact zent
 intro i hi
 have hlen:([[i64 a],[i64 b]]:List (List D)).length=2:=rfl
 have hel0:([[i64 a],[i64 b]]:List (List D))[((0:Nat):Int).toNat]? = some [i64 a]:=rfl
 have hel1:([[i64 a],[i64 b]]:List (List D))[((1:Nat):Int).toNat]? = some [i64 b]:=rfl
 have q0:0≤((0:Nat):Int)∧((0:Nat):Int)<(([[i64 a],[i64 b]]:List (List D)).length:Int):=⟨by omega,by simp⟩
 have q1:0≤((1:Nat):Int)∧((1:Nat):Int)<(([[i64 a],[i64 b]]:List (List D)).length:Int):=⟨by omega,by simp⟩
 rcases hi with rfl|⟨rfl,h1⟩|⟨rfl,h1,h2⟩
 ·repeat' ((conv=>whnf);first|(with_reducible first|refine br_t ?_|refine br_f ?_|refine za ?_|refine zg ?_)|first|(refine (Exists.intro _ (And.intro (And.intro hel0 (Nat.le_of_ble_eq_true rfl)) ?_)))|(refine And.intro q0 ?_)|refine zp ?_|refine zq ?_|(with_reducible first|refine bc (fun h => ?_) (fun h => ?_)|refine zt ?_|refine zf ?_|refine br_i (fun h => ?_) (fun h => ?_))|refine zg ?_|refine zi ?_|refine zb ?_)
  all_goals conv=>whnf
  ·refine r_int ?_
   unfold orN;rw [if_neg (by assumption)]
  ·refine ⟨1,.inr (.inl ⟨rfl,by omega⟩),?_,by show 2-1<2-0;decide⟩
   (conv=>whnf);exact zent
 ·repeat' ((conv=>whnf);first|(with_reducible first|refine br_t ?_|refine br_f ?_|refine za ?_|refine zg ?_)|first|(refine (Exists.intro _ (And.intro (And.intro hel1 (Nat.le_of_ble_eq_true rfl)) ?_)))|(refine And.intro q1 ?_)|refine zp ?_|refine zq ?_|(with_reducible first|refine bc (fun h => ?_) (fun h => ?_)|refine zt ?_|refine zf ?_|refine br_i (fun h => ?_) (fun h => ?_))|refine zg ?_|refine zi ?_|refine zb ?_)
  all_goals conv=>whnf
  ·refine r_int ?_
   unfold orN;rw [if_pos h1]
  ·refine ⟨2,.inr (.inr ⟨rfl,h1,by omega⟩),?_,by show 2-2<2-1;decide⟩
   (conv=>whnf);exact zent
 ·repeat' ((conv=>whnf);first|(with_reducible first|refine br_t ?_|refine br_f ?_|refine za ?_|refine zg ?_)|refine zp ?_|refine zq ?_|(with_reducible first|refine bc (fun h => ?_) (fun h => ?_)|refine zt ?_|refine zf ?_|refine br_i (fun h => ?_) (fun h => ?_))|refine zg ?_|refine zi ?_|refine zb ?_)
  all_goals conv=>whnf
  refine r_int ?_
  unfold orN;rw [if_pos h1];exact h2.symm
theorem oCheck_fn (m:Md):FnOK Tryz.prog 31 [m.dc] (ret1 (mchk m)):=by
 refine fn_ok (by kernel_rfl) ty_ok Tryz.func31 rfl (fun _ _=>Tryz.call31 _ _) rfl ?_
 intro hw
 clear hw
 rw [mchk_orN]
 have H:=ofirst_fn (askd m.n m.d) (fchk m.l)
 generalize orN (askd m.n m.d) (fchk m.l)=z at *
 by_cases h:z=0
 all_goals
  repeat' ((conv=>whnf);first|(with_reducible first|refine br_t ?_|refine br_f ?_|refine za ?_|refine zg ?_|refine xi (asked_fn _ _) ?_|refine xi (fCheck_fn _) ?_)|refine zp ?_|refine zq ?_|(with_reducible first|refine bc (fun h => ?_) (fun h => ?_)|refine zt ?_|refine zf ?_|refine br_i (fun h => ?_) (fun h => ?_))|refine zg ?_|refine zi ?_|refine zb ?_)
  all_goals conv=>whnf
  all_goals simp [h]
theorem roCheck_fn (m:Md):FnOK Tryz.prog 23 [m.dc] (ret1 (mchk m)):=by
 refine fn_ok (by kernel_rfl) ty_ok Tryz.func23 rfl (fun _ _=>Tryz.call23 _ _) rfl ?_
 intro hw
 clear hw
 unfold mchk
 have H1:=rasked_fn m.n m.d
 have H2:=rfCheck_fn m.l
 generalize askd m.n m.d=z at *
 generalize fchk m.l=y at *
 by_cases h:z=0<;>by_cases h':y=0
 all_goals
  repeat' ((conv=>whnf);first|(with_reducible first|refine br_t ?_|refine br_f ?_|refine za ?_|refine zg ?_)|refine zp ?_|refine zq ?_|(with_reducible first|refine bc (fun h => ?_) (fun h => ?_)|refine zt ?_|refine zf ?_|refine br_i (fun h => ?_) (fun h => ?_))|refine zg ?_|refine zi ?_|refine zb ?_)
  all_goals conv=>whnf
  all_goals simp [h,h']
theorem roSameModel_fn (m n:Md):FnOK Tryz.prog 20 [m.dc,n.dc] (.c (.one (bol (decide (m=n))))):=by
 refine fn_ok (by kernel_rfl) ty_ok Tryz.func20 rfl (fun _ _=>Tryz.call20 _ _) rfl ?_
 intro hw
 clear hw
 have H:=rfSame_fn m.l n.l
 have he:(m=n)↔(m.n=n.n∧m.d=n.d)∧m.l=n.l:=by cases m;cases n;simp [and_assoc]
 rw [show decide (m=n)=decide ((m.n=n.n∧m.d=n.d)∧m.l=n.l) from decide_eq_decide.2 he]
 by_cases h:m.n=n.n∧m.d=n.d
 all_goals
  cases hz:decide (m.l=n.l)
  all_goals
   rw [hz] at H
   repeat' ((conv=>whnf);first|(with_reducible first|refine br_t ?_|refine br_f ?_|refine za ?_|refine zg ?_)|refine zp ?_|refine zq ?_|(with_reducible first|refine bc (fun h => ?_) (fun h => ?_)|refine zt ?_|refine zf ?_|refine br_i (fun h => ?_) (fun h => ?_)|refine xi (pv_bool fun _=>eqv25 _ _ _ _ _ _ _) ?_)|refine zg ?_|refine zi ?_|refine zb ?_)
   all_goals conv=>whnf
   all_goals simp at hz
   all_goals simp [h,hz]
end Go.Proofs.YtfkfficabeclcaaGreatDoor

namespace Go.Proofs.YtfkfficabeclcaaGreatDoor
open Go Go.RowKit Sx
namespace Sx
def shModel:Sh:=.st (.fc 2 shRatio (.fc 1 shField .f0))
end Sx
theorem fits_model {ds:List D} (h:Fits shModel ds):∃ m:Md,ds=m.c:=by
 obtain ⟨_,_,rfl,h1,_,_,rfl,h2,rfl⟩:=h
 obtain ⟨n,d,rfl⟩:=fits_ratio h1
 obtain ⟨l,rfl⟩:=fits_field h2
 exact ⟨⟨n,d,l⟩,rfl⟩
theorem fit_model {c:DC} (h:FitC shModel c):∃ m:Md,c=m.dc:=by
 obtain ⟨ds,rfl,h⟩:=h
 obtain ⟨m,rfl⟩:=fits_model h
 exact ⟨m,rfl⟩
end Go.Proofs.YtfkfficabeclcaaGreatDoor

namespace Go.Proofs.YtfkfficabeclcaaGreatDoor
open Go Go.RowKit Go.Sort Sx
abbrev u8 (n:Int):D:=.v (.int .u8 n)
structure Ak where
 k:Int
 p:Pt
 id:Int
 n:Int
 d:Int
 deriving DecidableEq,Inhabited
def Ak.c (a:Ak):List D:=[u8 a.k,i64 a.p.id,i64 a.p.a,i64 a.p.b,i64 a.id,i64 a.n,i64 a.d]
abbrev Ak.dc (a:Ak):DC:=.agg [u8 a.k,i64 a.p.id,i64 a.p.a,i64 a.p.b,i64 a.id,i64 a.n,i64 a.d]
def formV (a:Ak):Bool :=
 decide ((a.k=1∨a.k=3)∧a.id=0∧a.n=0∧a.d=0∨a.k=2∧a.p.id=0∧a.p.a=0∧a.p.b=0∧a.n=0∧a.d=0∨a.k=4∧a.p.id=0∧a.p.a=0∧a.p.b=0∧a.id=0 ∨
  (a.k=5∨a.k=6)∧a.p.id=0∧a.p.a=0∧a.p.b=0∧a.id=0∧a.n=0∧a.d=0)
end Go.Proofs.YtfkfficabeclcaaGreatDoor

namespace Go.Proofs.YtfkfficabeclcaaGreatDoor
open Go Go.RowKit
namespace Sx
variable {P:Program} {sz:Nat} {E:Env} {H:Hp}
def kpE (ks:List Nat):List Nat→Env→Env
 | _,[]=>[]
 | D,(t,x)::r=>match memB t D with
  | true=>kpE ks D r
  | false=>match memB t ks with|true=>(t,x)::kpE ks (t::D) r|false=>kpE ks (t::D) r
theorem look_kpE {ks:List Nat}:∀ {E:Env} {D:List Nat} {t:Nat} {x:SV},look (kpE ks D E) t=some x→t ∉ D∧look E t=some x
 | [],D,t,x,h=>by simp [kpE,look] at h
 | (u,y)::r,D,t,x,h=>by
  unfold kpE at h
  rw [look_cons]
  split at h
  ·rename_i hm
   obtain ⟨h1,h2⟩:=look_kpE h
   exact ⟨h1,by rw [if_neg (by rintro rfl;exact h1 (memB_iff.1 hm))];exact h2⟩
  ·rename_i hm
   have hm':u ∉ D:=fun h'=>by rw [memB_iff.2 h'] at hm;cases hm
   split at h
   ·rw [look_cons] at h
    split at h
    ·rename_i e
     injection h with h
     subst e h
     exact ⟨hm',by rw [if_pos rfl]⟩
    ·obtain ⟨h1,h2⟩:=look_kpE h
     refine ⟨fun h'=>h1 (List.mem_cons_of_mem _ h'),?_⟩
     rename_i e
     rw [if_neg e];exact h2
   ·obtain ⟨h1,h2⟩:=look_kpE h
    exact ⟨fun h'=>h1 (List.mem_cons_of_mem _ h'),by rw [if_neg (by rintro rfl;exact h1 (List.mem_cons_self ..))];exact h2⟩
theorem loop_keep (ks:List Nat) {dm:Bool} {body:Code} {k:Exit→Env→Hp→Prop} (h:frcEnv (kpE ks [] E) fun E1=>LoopP P sz dm body E1 H k):LoopP P sz dm body E H k :=
 ⟨fun C M0 w0 ρ a w Q hdm R hQ=>((frcEnv_iff _ _).1 h).run C M0 w0 ρ a w Q hdm (R.same (fun t x hx=>(look_kpE hx).2) fun _=>rfl) hQ⟩
end Sx
end Go.Proofs.YtfkfficabeclcaaGreatDoor

namespace Go.Proofs.YtfkfficabeclcaaGreatDoor
open Go Go.RowKit Go.Sort Sx
abbrev bstr (l:List UInt8):Value:=.string ⟨l.toArray⟩
abbrev str (l:List UInt8):Sx.D:=.v (.string ⟨l.toArray⟩)
theorem str_toList (a:List UInt8):(⟨a.toArray⟩:ByteArray).toList=a:=by rw [Lib.toList_data]
theorem str_size (a:List UInt8):(⟨a.toArray⟩:ByteArray).size=a.length:=rfl
theorem str_append (a b:List UInt8):(⟨a.toArray⟩:ByteArray)++⟨b.toArray⟩=⟨(a++b).toArray⟩:=by
 apply ByteArray.ext
 simp
theorem str_extract (a:List UInt8) (i j:Nat):(⟨a.toArray⟩:ByteArray).extract i j=⟨((a.take j).drop i).toArray⟩:=by
 apply ByteArray.ext
 rw [ByteArray.data_extract]
 apply Array.ext'
 simp [List.extract_eq_take_drop,List.drop_take]
theorem str_get (a:List UInt8) (i:Nat):(⟨a.toArray⟩:ByteArray)[i]? = a[i]? := by
 by_cases h:i<a.length
 ·have h':i<(⟨a.toArray⟩:ByteArray).size:=h
  rw [List.getElem?_eq_getElem h,getElem?_pos (⟨a.toArray⟩:ByteArray) i h'];rfl
 ·have h':¬ i<(⟨a.toArray⟩:ByteArray).size:=h
  rw [List.getElem?_eq_none (by omega),getElem?_neg (⟨a.toArray⟩:ByteArray) i h']
theorem run_cat {P:Program} {t:Nat} {x y:Operand} {a b:List UInt8} (h:a.length+b.length≤9223372036854775807) (w:World):(do eqGuard .add t x y (bstr a) (bstr b);binOp .add t (bstr a) (bstr b):Sem Value).run P w=.ok (bstr (a++b)) w:=by
 have:=run_string_add_sum (P:=P) (w:=w) (⟨a.toArray⟩:ByteArray) ⟨b.toArray⟩ h
 simp only [Sem.run_bind]
 show (binOp .add t (bstr a) (bstr b)).run P w=_
 rw [binOp_string_add,this,str_append]
theorem run_seq {P:Program} {t:Nat} {x y:Operand} {a b:List UInt8} (w:World):(do eqGuard .eql t x y (bstr a) (bstr b);binOp .eql t (bstr a) (bstr b):Sem Value).run P w=.ok (.bool (decide (a=b))) w:=by
 simp only [Sem.run_bind]
 show (binOp .eql t (bstr a) (bstr b)).run P w=_
 rw [binOp_string_eql,str_toList,str_toList]
 simp [go_sem]
 by_cases h:a=b<;>simp [h]
theorem run_sne {P:Program} {t:Nat} {x y:Operand} {a b:List UInt8} (w:World):(do eqGuard .neq t x y (bstr a) (bstr b);binOp .neq t (bstr a) (bstr b):Sem Value).run P w=.ok (.bool (decide (¬ a=b))) w:=by
 simp only [Sem.run_bind]
 show (binOp .neq t (bstr a) (bstr b)).run P w=_
 rw [binOp_string_neq,str_toList,str_toList]
 simp [go_sem]
 by_cases h:a=b<;>simp [h]
theorem cat_pv {P:Program} {t:Nat} {x y:Operand} {a b:List UInt8} (h:a.length+b.length≤9223372036854775807):(bstr (a++b)).oneCell'=true∧wfV (bstr (a++b))∧∀ w,(do eqGuard .add t x y (bstr a) (bstr b);binOp .add t (bstr a) (bstr b):Sem Value).run P w=.ok (bstr (a++b)) w:=⟨rfl,trivial,run_cat h⟩
theorem seq_pv {P:Program} {t:Nat} {x y:Operand} {a b:List UInt8}:(Value.bool (decide (a=b))).oneCell'=true∧wfV (.bool (decide (a=b)))∧∀ w,(do eqGuard .eql t x y (bstr a) (bstr b);binOp .eql t (bstr a) (bstr b):Sem Value).run P w=.ok (.bool (decide (a=b))) w:=⟨rfl,trivial,run_seq⟩
theorem sne_pv {P:Program} {t:Nat} {x y:Operand} {a b:List UInt8}:(Value.bool (decide (¬ a=b))).oneCell'=true∧wfV (.bool (decide (¬ a=b)))∧∀ w,(do eqGuard .neq t x y (bstr a) (bstr b);binOp .neq t (bstr a) (bstr b):Sem Value).run P w=.ok (.bool (decide (¬ a=b))) w:=⟨rfl,trivial,run_sne⟩
theorem po_sidx {P:Program} {o:Oper} {t:Nat} {x y:Operand} {l:List UInt8} {k:IntKind} {i:Int} (ho:o.op=.index t x y) (ht:P.underlying t=some .string) (h0:0≤i) (hi:i.toNat<l.length):PureOp P o [bstr l,.int k i] (.int .u8 (l[i.toNat].toNat:Int)):=by
 refine ⟨rfl,?_,fun f hf w => ?_⟩
 ·show inK .u8 _
  have:=l[i.toNat].toNat_lt
  simp only [inK];omega
 ·rw [ho] at hf
  simp only [Op.operands,List.map_cons,List.map_nil,List.cons.injEq,and_true] at hf
  simp [execOp,ho,hf.1,hf.2,Instr.index,asIntOf,run_underlying ht,h0,str_get,List.getElem?_eq_getElem hi]
theorem po_ssl {P:Program} {o:Oper} {t:Nat} {x y z:Operand} {l:List UInt8} {k k':IntKind} {i j:Int} (ho:o.op=.slice t x (some y) (some z) none) (ht:P.underlying t=some .string) (h0:0≤i) (h1:i≤j) (h2:j≤l.length):PureOp P o [bstr l,.int k i,.int k' j] (bstr ((l.take j.toNat).drop i.toNat)):=by
 refine ⟨rfl,trivial,fun f hf w => ?_⟩
 rw [ho] at hf
 simp [Op.operands] at hf
 have e1:((j.toNat:Nat):Int)=j:=by omega
 simp [execOp,ho,hf,Instr.sliceAt,Instr.slice,Instr.sliceBounds,Instr.sliceBound,asIntOf,run_underlying ht,str_size,h0,h1,h2,e1,str_extract,show 0≤j by omega]
theorem po_ssl1 {P:Program} {o:Oper} {t:Nat} {x y:Operand} {l:List UInt8} {k:IntKind} {i:Int} (ho:o.op=.slice t x (some y) none none) (ht:P.underlying t=some .string) (h0:0≤i) (h1:i≤l.length):PureOp P o [bstr l,.int k i] (bstr (l.drop i.toNat)):=by
 refine ⟨rfl,trivial,fun f hf w => ?_⟩
 rw [ho] at hf
 simp [Op.operands] at hf
 have e1:l.drop i.toNat=(l.take l.length).drop i.toNat:=by rw [List.take_length]
 rw [e1]
 simp [execOp,ho,hf,Instr.sliceAt,Instr.slice,Instr.sliceBounds,Instr.sliceBound,asIntOf,run_underlying ht,str_size,h0,h1,str_extract]
theorem po_slen {P:Program} {o:Oper} {t:Nat} {x:Operand} {l:List UInt8} {c:Call} (ho:o.op=.call c) (hc:c.callee=.builtin .len) (ha:c.args=#[x]) (hat:c.argTypes=#[t]) (ht:P.underlying t=some .string) (hl:l.length≤9223372036854775807):PureOp P o [bstr l] (.int .i64 (l.length:Int)):=by
 refine ⟨rfl,⟨by omega,by omega⟩,fun f hf w => ?_⟩
 rw [ho] at hf
 simp [Op.operands,Call.operands,hc,ha] at hf
 simp [execOp,ho,resolve,hc,ha,hat,invoke,builtin,hf,Builtin.len_,run_underlying ht,str_size,goInt]
theorem po_sget {P:Program} {o:Oper} {t:Nat} {x y:Operand} {l:List UInt8} {k:IntKind} {i:Int} {b:UInt8} (ho:o.op=.index t x y) (ht:P.underlying t=some .string) (h0:0≤i) (hi:l[i.toNat]? = some b):PureOp P o [bstr l,.int k i] (.int .u8 (b.toNat:Int)):=by
 obtain ⟨h,e⟩:=List.getElem?_eq_some_iff.1 hi
 have:=po_sidx (P:=P) (k:=k) ho ht h0 h
 rw [e] at this;exact this
theorem zsl {o:Oper} {x:Operand} {c:Call} {l:List UInt8} {K:Value→Prop} (k:K (.int .i64 (l.length:Int))) (h:l.length≤9223372036854775807:=by first|omega|(simp only [List.length_append,List.length_cons,List.length_nil];omega)) (ho:o.op=.call c:=by rfl) (hc:c.callee=.builtin .len:=by rfl) (ha:c.args=#[x]:=by rfl) (hat:c.argTypes=#[9]:=by rfl):∃ v,PureOp Tryz.prog o [bstr l] v∧K v:=⟨_,po_slen ho hc ha hat Tryz.underlying9 h,k⟩
theorem zsg {o:Oper} {x y:Operand} {l:List UInt8} {kk:IntKind} {i:Int} {b:UInt8} {K:Value→Prop} (k:K (.int .u8 (b.toNat:Int))) (hi:l[i.toNat]? = some b:=by assumption) (h0:0≤i:=by omega) (ho:o.op=.index 9 x y:=by rfl):∃ v,PureOp Tryz.prog o [bstr l,.int kk i] v∧K v:=⟨_,po_sget ho Tryz.underlying9 h0 hi,k⟩
theorem zss {o:Oper} {x y z:Operand} {l:List UInt8} {kk kk':IntKind} {i j:Int} {K:Value→Prop} (k:K (bstr ((l.take j.toNat).drop i.toNat))) (h0:0≤i:=by omega) (h1:i≤j:=by omega) (h2:j≤l.length:=by omega) (ho:o.op=.slice 9 x (some y) (some z) none:=by rfl):∃ v,PureOp Tryz.prog o [bstr l,.int kk i,.int kk' j] v∧K v:=⟨_,po_ssl ho Tryz.underlying9 h0 h1 h2,k⟩
theorem zs1 {o:Oper} {x y:Operand} {l:List UInt8} {kk:IntKind} {i:Int} {K:Value→Prop} (k:K (bstr (l.drop i.toNat))) (h0:0≤i:=by omega) (h1:i≤l.length:=by omega) (ho:o.op=.slice 9 x (some y) none none:=by rfl):∃ v,PureOp Tryz.prog o [bstr l,.int kk i] v∧K v:=⟨_,po_ssl1 ho Tryz.underlying9 h0 h1,k⟩
theorem zse {t:Nat} {x y:Operand} {a b:List UInt8} {K:Value→Prop} (k:K (.bool (decide (a=b)))):∃ v,(v.oneCell'=true∧wfV v∧∀ w,(do eqGuard .eql t x y (bstr a) (bstr b);binOp .eql t (bstr a) (bstr b):Sem Value).run Tryz.prog w=.ok v w)∧K v:=⟨_,seq_pv,k⟩
theorem zsn {t:Nat} {x y:Operand} {a b:List UInt8} {K:Value→Prop} (k:K (.bool (decide (¬ a=b)))):∃ v,(v.oneCell'=true∧wfV v∧∀ w,(do eqGuard .neq t x y (bstr a) (bstr b);binOp .neq t (bstr a) (bstr b):Sem Value).run Tryz.prog w=.ok v w)∧K v:=⟨_,sne_pv,k⟩
theorem zsc {t:Nat} {x y:Operand} {a b:List UInt8} {K:Value→Prop} (k:K (bstr (a++b))) (h:a.length+b.length≤9223372036854775807:=by first|omega|(simp only [List.length_append,List.length_cons,List.length_nil];omega)):∃ v,(v.oneCell'=true∧wfV v∧∀ w,(do eqGuard .add t x y (bstr a) (bstr b);binOp .add t (bstr a) (bstr b):Sem Value).run Tryz.prog w=.ok v w)∧K v:=⟨_,cat_pv h,k⟩
theorem zpa {c:Bool} {p q A B:Prop} [h:BC c p q] (k:A) (e:p:=by first|assumption|with_reducible rfl):br c A B:=bc_t e k
theorem zqa {c:Bool} {p q A B:Prop} [h:BC c p q] (k:B) (e:q:=by assumption):br c A B:=bc_f e k
end Go.Proofs.YtfkfficabeclcaaGreatDoor

namespace Go.Proofs.YtfkfficabeclcaaGreatDoor
open Go Go.RowKit Sx
theorem fit_str {c:DC} (h:FitC .str c):∃ s:List UInt8,s.length≤9223372036854775807∧c=.one (str s):=by
 obtain ⟨d,rfl,b,hb,e⟩:=h
 simp only [List.cons.injEq,and_true] at e
 subst e
 refine ⟨b.data.toList,?_,rfl⟩
 have:=Lib.size_eq b
 simp only [maxLen] at hb
 omega
def cells0:DataW Unit→List Value
 | .lit (.int k n)=>[.int k n]
 | _=>[]
def cells1:DataW Unit→List Value
 | .agg l=>l.flatMap cells0
 | x=>cells0 x
def cells2:DataW Unit→List Value
 | .agg l=>l.flatMap cells1
 | x=>cells1 x
def layB (l:List (String × DataW Unit)) (i:Nat) (cs:Array Value):Array Value:=match l[i]? with
 | some x=>(cells2 x.2).toArray
 | none=>cs
def layO (i:Nat):Obj→Obj
 | .cells c t f=>.cells (layB Rows.reportStandingsRow.laid i c) t f
 | o=>o
def layE (b:Nat):Obj→Obj
 | .cells _ t f=>.cells #[.iface 304 (.pointer (some ⟨b,0,none⟩))] t f
 | o=>o
abbrev textR:ByteArray:={ data:=#[118,97,108,117,101,32,111,117,116,32,111,102,32,114,97,110,103,101] }
abbrev textS:ByteArray:={ data:=#[105,110,118,97,108,105,100,32,115,121,110,116,97,120] }
noncomputable def lowR:Nat:=(World.holding Tryz.prog default ⟨#[],#[],[]⟩).heap.size
noncomputable def laidHeap (os:Os):Array Obj:=(((((((World.holding Tryz.prog os ⟨#[.cells #[.string textR] 306,.cells #[.string textS] 306],#[],[]⟩).heap.modify 8 (layO 0)).modify 9 (layO 1)).modify 2 (layO 2)).modify 7 (layO 3)).modify 5 (layE lowR)).modify 4 (layE (lowR+1))).modify 6 (layO 6)
noncomputable def laidWorld (os:Os):World:={ World.holding Tryz.prog os ⟨#[.cells #[.string textR] 306,.cells #[.string textS] 306],#[],[]⟩ with heap:=laidHeap os }
theorem laid_met (os:Os) (args:Array Value):laidMet Tryz.prog Rows.reportStandingsRow.laid ((laidWorld os).forCall (fun _ _=>0) ⟨#[],args,[]⟩).memory :=
 laidMet_of_run3 8 (by kernel_rfl) (by kernel_rfl) (by kernel_rfl)
theorem estar : "*" ++ "errors.errorString" = "*errors.errorString" := by decide
theorem erow (u:TypeId) (h:(Tryz.prog).typeName? 3 u=some "*errors.errorString"):u=304 :=
 typeName_ptr_named (nm := "errors.errorString") (by rw [estar];kernel_rfl) (by kernel_rfl) (by decide) u (by rw [estar];exact h)
theorem gd_of {W:World} (hL:laidMetH Tryz.prog Rows.reportStandingsRow.laid W) (hsh:W.ShapedOpen Tryz.prog):Gd W:=by
 refine ⟨?_,?_,?_,?_,?_⟩
 ·have hsome:(((begin Tryz.prog (fun _ _=>0) default).world.heap[9]?).bind Obj.row?).isSome=true:=by kernel_rfl
  obtain ⟨⟨zero,t⟩,h0⟩:=Option.isSome_iff_exists.1 hsome
  obtain ⟨cs,hh,_,_⟩:=hsh.1 9 zero t (of_decide_eq_true (by kernel_rfl)) h0
  have:9<W.heap.size:=(Array.getElem?_eq_some_iff.1 hh).1
  have e:gl=10:=by unfold gl;kernel_rfl
  omega
 ·exact Tryz.laysM145.s1_3 W hsh
 ·have h1:=hL.filter fun x=>x.1 == "internal/strconv.uint64pow10"
  have e:(Rows.reportStandingsRow.laid.filter fun x=>x.1 == "internal/strconv.uint64pow10")=[("internal/strconv.uint64pow10", Rows.laid_internal_strconv_uint64pow10)]:=by kernel_rfl
  rw [e] at h1
  have h2:laidMet Tryz.prog [("internal/strconv.uint64pow10", Lib.tabData .u64 Lib.pow10Tab)] W:=h1
  exact Lib.tabIs_of_head (g:=2) (t:=283) (e:=121) (n:=20) (by kernel_rfl) (by kernel_rfl) (by kernel_rfl) (by kernel_rfl) (by kernel_rfl) (by kernel_rfl) h2
 ·have h1:=hL.filter fun x=>x.1 == "strconv.ErrSyntax"
  have e:(Rows.reportStandingsRow.laid.filter fun x=>x.1 == "strconv.ErrSyntax")=[("strconv.ErrSyntax", Rows.laid_strconv_ErrSyntax)]:=by kernel_rfl
  rw [e] at h1
  have h2:laidMet Tryz.prog [("strconv.ErrSyntax", Rows.laid_strconv_ErrSyntax)] W:=h1
  obtain ⟨a,_,h3,_⟩:=laid_sentinel (g:=4) (ti:=142) (ts:=9) h2 (by kernel_rfl) (by kernel_rfl) Tryz.underlying142 erow Tryz.underlying304 Tryz.underlying306 rfl rfl Tryz.underlying9 (by kernel_rfl) (by kernel_rfl)
  exact ⟨_,_,h3⟩
 ·have h1:=hL.filter fun x=>x.1 == "strconv.ErrRange"
  have e:(Rows.reportStandingsRow.laid.filter fun x=>x.1 == "strconv.ErrRange")=[("strconv.ErrRange", Rows.laid_strconv_ErrRange)]:=by kernel_rfl
  rw [e] at h1
  have h2:laidMet Tryz.prog [("strconv.ErrRange", Rows.laid_strconv_ErrRange)] W:=h1
  obtain ⟨a,_,h3,_⟩:=laid_sentinel (g:=5) (ti:=142) (ts:=9) h2 (by kernel_rfl) (by kernel_rfl) Tryz.underlying142 erow Tryz.underlying304 Tryz.underlying306 rfl rfl Tryz.underlying9 (by kernel_rfl) (by kernel_rfl)
  exact ⟨_,_,h3⟩
end Go.Proofs.YtfkfficabeclcaaGreatDoor

namespace Go.Proofs
open Go.Shelf
def Tryz.sortPt_ren:Go.Shelf.Ren:=⟨fun|6=>47|15=>91|14=>90|28=>153|29=>154|20=>145|21=>146|22=>147|23=>148|24=>149|25=>150|26=>151|27=>152|46=>196|47=>197|48=>198|49=>199|50=>200|57=>236|n=>n,fun|22=>37|24=>43|25=>98|3=>3|39=>152|0=>0|53=>212|55=>121|4=>4|46=>206|45=>205|50=>181|5=>5|9=>9|66=>254|70=>136|76=>290|77=>291|n=>n,fun|n=>n⟩
theorem Tryz.sortPt:Go.Proofs.SlLaysF0.n6 Tryz.prog Tryz.sortPt_ren:={
 mixed:=by kernel_rfl
 f6:=⟨Tryz.f47.name,by decide,Tryz.func47.trans (congrArg some (by kernel_rfl))⟩
 f14:=⟨Tryz.f90.name,by decide,Tryz.func90.trans (congrArg some (by kernel_rfl))⟩
 f15:=Tryz.func91.trans (congrArg some (by kernel_rfl))
 f20:=⟨Tryz.f145.name,by decide,Tryz.func145.trans (congrArg some (by kernel_rfl))⟩
 f21:=⟨Tryz.f146.name,by decide,Tryz.func146.trans (congrArg some (by kernel_rfl))⟩
 f22:=⟨Tryz.f147.name,by decide,Tryz.func147.trans (congrArg some (by kernel_rfl))⟩
 f23:=⟨Tryz.f148.name,by decide,Tryz.func148.trans (congrArg some (by kernel_rfl))⟩
 f24:=⟨Tryz.f149.name,by decide,Tryz.func149.trans (congrArg some (by kernel_rfl))⟩
 f25:=⟨Tryz.f150.name,by decide,Tryz.func150.trans (congrArg some (by kernel_rfl))⟩
 f26:=⟨Tryz.f151.name,by decide,Tryz.func151.trans (congrArg some (by kernel_rfl))⟩
 f27:=⟨Tryz.f152.name,by decide,Tryz.func152.trans (congrArg some (by kernel_rfl))⟩
 f28:=Tryz.func153.trans (congrArg some (by kernel_rfl))
 f29:=Tryz.func154.trans (congrArg some (by kernel_rfl))
 f46:=⟨Tryz.f196.name,by decide,Tryz.func196.trans (congrArg some (by kernel_rfl))⟩
 f47:=Tryz.func197.trans (congrArg some (by kernel_rfl))
 f48:=Tryz.func198.trans (congrArg some (by kernel_rfl))
 f49:=⟨Tryz.f199.name,by decide,Tryz.func199.trans (congrArg some (by kernel_rfl))⟩
 f50:=⟨Tryz.f200.name,by decide,Tryz.func200.trans (congrArg some (by kernel_rfl))⟩
 f57:=⟨Tryz.f236.name,by decide,Tryz.func236.trans (congrArg some (by kernel_rfl))⟩
 t0:=Tryz.underlying0
 a0:=Tryz.isAgg0
 z0:=Tryz.sizeOf0
 v0:=Tryz.zeroValue0
 t3:=Tryz.underlying3
 a3:=Tryz.isAgg3
 z3:=Tryz.sizeOf3
 v3:=Tryz.zeroValue3
 t4:=Tryz.underlying4
 a4:=Tryz.isAgg4
 z4:=Tryz.sizeOf4
 v4:=Tryz.zeroValue4
 t5:=Tryz.underlying5
 a5:=Tryz.isAgg5
 z5:=Tryz.sizeOf5
 v5:=Tryz.zeroValue5
 t9:=Tryz.underlying9
 a9:=Tryz.isAgg9
 z9:=Tryz.sizeOf9
 v9:=Tryz.zeroValue9
 t22:=Tryz.underlying37
 a22:=Tryz.isAgg37
 z22:=Tryz.sizeOf37
 v22:=Tryz.zeroValue37
 t25:=Tryz.underlying98
 a25:=Tryz.isAgg98
 z25:=Tryz.sizeOf98
 v25:=Tryz.zeroValue98
 t39:=Tryz.underlying152
 a39:=Tryz.isAgg152
 z39:=Tryz.sizeOf152
 v39:=Tryz.zeroValue152
 t45:=Tryz.underlying205
 a45:=Tryz.isAgg205
 z45:=Tryz.sizeOf205
 v45:=Tryz.zeroValue205
 t46:=Tryz.underlying206
 a46:=Tryz.isAgg206
 z46:=Tryz.sizeOf206
 v46:=Tryz.zeroValue206
 t50:=Tryz.underlying181
 a50:=Tryz.isAgg181
 z50:=Tryz.sizeOf181
 v50:=Tryz.zeroValue181
 t53:=Tryz.underlying212
 a53:=Tryz.isAgg212
 z53:=Tryz.sizeOf212
 v53:=Tryz.zeroValue212
 t55:=Tryz.underlying121
 a55:=Tryz.isAgg121
 z55:=Tryz.sizeOf121
 v55:=Tryz.zeroValue121
 t66:=Tryz.underlying254
 a66:=Tryz.isAgg254
 z66:=Tryz.sizeOf254
 v66:=Tryz.zeroValue254
 t70:=Tryz.underlying136
 a70:=Tryz.isAgg136
 z70:=Tryz.sizeOf136
 v70:=Tryz.zeroValue136
 t76:=Tryz.underlying290
 a76:=Tryz.isAgg290
 z76:=Tryz.sizeOf290
 v76:=Tryz.zeroValue290
 t77:=Tryz.underlying291
 a77:=Tryz.isAgg291
 z77:=Tryz.sizeOf291
 v77:=Tryz.zeroValue291 }
def Tryz.sortMt_ren:Go.Shelf.Ren:=⟨fun|6=>204|15=>91|14=>239|28=>153|29=>154|20=>249|21=>250|22=>251|23=>252|24=>253|25=>254|26=>255|27=>256|46=>258|47=>197|48=>198|49=>259|50=>260|57=>261|n=>n,fun|22=>26|24=>31|25=>133|3=>3|39=>152|0=>0|53=>212|55=>121|4=>4|46=>206|45=>205|50=>181|5=>5|9=>9|66=>254|70=>136|76=>290|77=>291|n=>n,fun|n=>n⟩
theorem Tryz.sortMt:Go.Proofs.SlLaysF0.n6 Tryz.prog Tryz.sortMt_ren:={
 mixed:=by kernel_rfl
 f6:=⟨Tryz.f204.name,by decide,Tryz.func204.trans (congrArg some (by kernel_rfl))⟩
 f14:=⟨Tryz.f239.name,by decide,Tryz.func239.trans (congrArg some (by kernel_rfl))⟩
 f15:=Tryz.func91.trans (congrArg some (by kernel_rfl))
 f20:=⟨Tryz.f249.name,by decide,Tryz.func249.trans (congrArg some (by kernel_rfl))⟩
 f21:=⟨Tryz.f250.name,by decide,Tryz.func250.trans (congrArg some (by kernel_rfl))⟩
 f22:=⟨Tryz.f251.name,by decide,Tryz.func251.trans (congrArg some (by kernel_rfl))⟩
 f23:=⟨Tryz.f252.name,by decide,Tryz.func252.trans (congrArg some (by kernel_rfl))⟩
 f24:=⟨Tryz.f253.name,by decide,Tryz.func253.trans (congrArg some (by kernel_rfl))⟩
 f25:=⟨Tryz.f254.name,by decide,Tryz.func254.trans (congrArg some (by kernel_rfl))⟩
 f26:=⟨Tryz.f255.name,by decide,Tryz.func255.trans (congrArg some (by kernel_rfl))⟩
 f27:=⟨Tryz.f256.name,by decide,Tryz.func256.trans (congrArg some (by kernel_rfl))⟩
 f28:=Tryz.func153.trans (congrArg some (by kernel_rfl))
 f29:=Tryz.func154.trans (congrArg some (by kernel_rfl))
 f46:=⟨Tryz.f258.name,by decide,Tryz.func258.trans (congrArg some (by kernel_rfl))⟩
 f47:=Tryz.func197.trans (congrArg some (by kernel_rfl))
 f48:=Tryz.func198.trans (congrArg some (by kernel_rfl))
 f49:=⟨Tryz.f259.name,by decide,Tryz.func259.trans (congrArg some (by kernel_rfl))⟩
 f50:=⟨Tryz.f260.name,by decide,Tryz.func260.trans (congrArg some (by kernel_rfl))⟩
 f57:=⟨Tryz.f261.name,by decide,Tryz.func261.trans (congrArg some (by kernel_rfl))⟩
 t0:=Tryz.underlying0
 a0:=Tryz.isAgg0
 z0:=Tryz.sizeOf0
 v0:=Tryz.zeroValue0
 t3:=Tryz.underlying3
 a3:=Tryz.isAgg3
 z3:=Tryz.sizeOf3
 v3:=Tryz.zeroValue3
 t4:=Tryz.underlying4
 a4:=Tryz.isAgg4
 z4:=Tryz.sizeOf4
 v4:=Tryz.zeroValue4
 t5:=Tryz.underlying5
 a5:=Tryz.isAgg5
 z5:=Tryz.sizeOf5
 v5:=Tryz.zeroValue5
 t9:=Tryz.underlying9
 a9:=Tryz.isAgg9
 z9:=Tryz.sizeOf9
 v9:=Tryz.zeroValue9
 t22:=Tryz.underlying26
 a22:=Tryz.isAgg26
 z22:=Tryz.sizeOf26
 v22:=Tryz.zeroValue26
 t25:=Tryz.underlying133
 a25:=Tryz.isAgg133
 z25:=Tryz.sizeOf133
 v25:=Tryz.zeroValue133
 t39:=Tryz.underlying152
 a39:=Tryz.isAgg152
 z39:=Tryz.sizeOf152
 v39:=Tryz.zeroValue152
 t45:=Tryz.underlying205
 a45:=Tryz.isAgg205
 z45:=Tryz.sizeOf205
 v45:=Tryz.zeroValue205
 t46:=Tryz.underlying206
 a46:=Tryz.isAgg206
 z46:=Tryz.sizeOf206
 v46:=Tryz.zeroValue206
 t50:=Tryz.underlying181
 a50:=Tryz.isAgg181
 z50:=Tryz.sizeOf181
 v50:=Tryz.zeroValue181
 t53:=Tryz.underlying212
 a53:=Tryz.isAgg212
 z53:=Tryz.sizeOf212
 v53:=Tryz.zeroValue212
 t55:=Tryz.underlying121
 a55:=Tryz.isAgg121
 z55:=Tryz.sizeOf121
 v55:=Tryz.zeroValue121
 t66:=Tryz.underlying254
 a66:=Tryz.isAgg254
 z66:=Tryz.sizeOf254
 v66:=Tryz.zeroValue254
 t70:=Tryz.underlying136
 a70:=Tryz.isAgg136
 z70:=Tryz.sizeOf136
 v70:=Tryz.zeroValue136
 t76:=Tryz.underlying290
 a76:=Tryz.isAgg290
 z76:=Tryz.sizeOf290
 v76:=Tryz.zeroValue290
 t77:=Tryz.underlying291
 a77:=Tryz.isAgg291
 z77:=Tryz.sizeOf291
 v77:=Tryz.zeroValue291 }
end Go.Proofs

namespace Go.Proofs.YtfkfficabeclcaaGreatDoor
open Go Go.Shelf Go.RowKit Go.Lib Go.Sort Sx
namespace Sx
theorem flat_get2 {k:Nat} (hk0:0<k):∀ {l:List (List Value)} {t:Nat},(∀ x∈l,x.length=k)→t<l.length*k→l.flatten[t]? = (l[t / k]?).bind (fun x=>x[t % k]?)
 | [],t,_,h=>by simp at h
 | x::l,t,hk,h=>by
  have hx:=hk x (List.mem_cons_self ..)
  rw [List.flatten_cons]
  rcases Nat.lt_or_ge t k with h1|h1
  ·rw [List.getElem?_append_left (by omega),Nat.div_eq_of_lt h1,Nat.mod_eq_of_lt h1];rfl
  ·obtain ⟨u,rfl⟩:∃ u,t=u+k:=⟨t-k,by omega⟩
   rw [List.getElem?_append_right (by omega),hx,Nat.add_sub_cancel,flat_get2 hk0 (fun y hy=>hk y (List.mem_cons_of_mem _ hy)) (by simp only [List.length_cons,Nat.add_mul,Nat.one_mul] at h;omega),Nat.add_div_right _ hk0,Nat.add_mod_right]
   rfl
theorem flat_len2 {k:Nat}:∀ {l:List (List Value)},(∀ x∈l,x.length=k)→l.flatten.length=l.length*k
 | [],_=>by simp
 | x::l,hk=>by
  rw [List.flatten_cons,List.length_append,hk x (List.mem_cons_self ..),flat_len2 fun y hy=>hk y (List.mem_cons_of_mem _ hy),List.length_cons,Nat.add_mul,Nat.one_mul]
  omega
theorem flatK_toList {α:Type} [Inhabited α] {enc:α→List Value} {k:Nat} (hk0:0<k) (hk:∀ x,(enc x).length=k) (d:List α):(flatK enc k d.toArray).toList=(d.map enc).flatten:=by
 have hm:∀ x∈d.map enc,x.length=k:=fun x hx=>by obtain ⟨y,_,rfl⟩:=List.mem_map.1 hx;exact hk y
 have hl:=flat_len2 hm
 rw [List.length_map] at hl
 refine List.ext_getElem? fun t => ?_
 rcases Nat.lt_or_ge t (d.length*k) with h|h
 ·have h2:=get_flatK enc k d.toArray t (by simpa using h)
  have hd:t / k<d.length:=Nat.div_lt_of_lt_mul (by rw [Nat.mul_comm];exact h)
  have hsz:t<(flatK enc k d.toArray).size:=by simpa using h
  rw [getElem!_pos (flatK enc k d.toArray) t hsz] at h2
  rw [flat_get2 hk0 hm (by simpa using h),List.getElem?_map,List.getElem?_eq_getElem hd,Array.getElem?_toList,Array.getElem?_eq_getElem hsz,h2]
  have e1:d.toArray[t / k]! = d[t / k]:=by rw [getElem!_pos d.toArray (t / k) (by simpa using hd)];simp
  rw [e1]
  have h3:t % k<(enc d[t / k]).length:=by rw [hk];exact Nat.mod_lt _ hk0
  rw [getElem!_pos (enc d[t / k]) (t % k) h3]
  simp [List.getElem?_eq_getElem h3]
 ·rw [List.getElem?_eq_none (by simpa using h),List.getElem?_eq_none (by omega)]
theorem heap_sort {α:Type} [Inhabited α] {enc:α→List Value} {k n b:Nat} {dk:Array α} {os:Array Obj} {w:World} {c:Array Value} {T:TypeId} (hb:w.heap[b]? = some (.cells c T (0,0))) :
  (sortWorldK enc k w b 0 n dk os).heap[b]? = some (.cells (putCells id 0 (flatK enc k dk) c) T (0,0)):=by
 have hlt:b<w.heap.size:=(Array.getElem?_eq_some_iff.1 hb).1
 unfold sortWorldK grow putRowK putRow mapBlock
 simp only
 rw [Array.getElem?_append_left (by simpa [Sort.ahead] using hlt)]
 simp [Sort.ahead,Array.getElem?_modify,hb,onCells]
theorem heap_sort_other {α:Type} [Inhabited α] {enc:α→List Value} {k n b i:Nat} {dk:Array α} {os:Array Obj} {w:World} (hi:i<w.heap.size) (hne:i≠b):(sortWorldK enc k w b 0 n dk os).heap[i]? = w.heap[i]? := by
 unfold sortWorldK grow putRowK putRow mapBlock
 simp only
 rw [Array.getElem?_append_left (by simpa [Sort.ahead] using hi)]
 simp [Sort.ahead,Array.getElem?_modify,Ne.symm hne]
theorem size_sort {α:Type} [Inhabited α] {enc:α→List Value} {k n b:Nat} {dk:Array α} {os:Array Obj} {w:World}:w.heap.size≤(sortWorldK enc k w b 0 n dk os).heap.size:=by
 unfold sortWorldK grow putRowK putRow mapBlock
 simp [Sort.ahead]
theorem put_flat {F:Array Value} {c:List Value} (h:F.size≤c.length):(putCells id 0 F c.toArray).toList=F.toList++c.drop F.size:=by
 refine List.ext_getElem? fun t => ?_
 rw [Array.getElem?_toList]
 unfold putCells
 rw [Array.getElem?_mapIdx]
 rcases Nat.lt_or_ge t F.size with h1|h1
 ·rw [List.getElem?_append_left (by simpa using h1)]
  have:t<c.length:=by omega
  simp [h1,this]
 ·rw [List.getElem?_append_right (by simpa using h1)]
  simp only [List.getElem?_drop,Array.length_toList]
  rw [show F.size+(t-F.size)=t by omega]
  simp
  have:¬ t<F.size:=by omega
  simp [this]
theorem dsR_flat {w:World} {M:Nat→Prop}:∀ {xs vs:List Value},DsR w M (xs.map .v) vs→vs=xs
 | [],[],_=>rfl
 | x::xs,v::vs,h=>by
  have h1:Rep w M (.v x) v:=h.1
  cases h1
  rw [dsR_flat h.2]
 | [],_::_,h=>h.elim
 | _::_,[],h=>h.elim
theorem dsR_of_flat {w:World} {M:Nat→Prop}:∀ {xs:List Value},(∀ v∈xs,v.oneCell'=true∧wfV v)→DsR w M (xs.map .v) xs
 | [],_=>trivial
 | x::xs,h=>⟨.v x (h x (List.mem_cons_self ..)).1 (h x (List.mem_cons_self ..)).2,dsR_of_flat fun v hv=>h v (List.mem_cons_of_mem _ hv)⟩
theorem flatL_v:∀ (xs:List Value),flatL (xs.map .v)=true
 | []=>rfl
 | x::xs=>flatL_v xs
theorem flatten_v {α:Type} {enc:α→List Value} (d:List α):(d.map fun x=>(enc x).map D.v).flatten=((d.map enc).flatten).map D.v:=by
 induction d with
 | nil=>rfl
 | cons x d ih=>rw [List.map_cons,List.flatten_cons,ih,List.map_cons,List.flatten_cons,List.map_append]
theorem sort_mu {P:Program} {ρ:Ren} {α:Type} [Inhabited α] (L:SlLaysF0.n6 P ρ) {k:Nat} (hk0:0<k) (aE:∀ w,(isAgg (ρ.t 24)).run P w=.ok true w) (zE:∀ w,(Go.sizeOf (ρ.t 24)).run P w=.ok k w)
  (enc:α→List Value) (hk:∀ x,(enc x).length=k) (h1:∀ x,∀ v∈enc x,v.oneCell'=true∧wfV v) (cf:α→α→Int) (hO:SWO (ltOf cf)) (hT:∀ x y,ltOf cf x y=false→ltOf cf y x=false→x=y) {g:Nat} {caps:List (List D)}
  (eg:∀ args w,(callFunc g args).run P w=.ok (.enter g args) w) (es:∀ args w,(callFunc (ρ.f 6) args).run P w=.ok (.enter (ρ.f 6) args) w)
  (hcmp:∀ x y,FnD P g ([.agg ((enc x).map .v),.agg ((enc y).map .v)]++refsC caps) (.c (.one (.v (.int .i64 (cf x y)))))) (d:List α) (hsz:d.length<4611686018427387904) :
  FnMu P (ρ.f 6) k (d.map fun x=>(enc x).map .v) [.one (.clo g caps)] ((d.mergeSort fun x y => !(ltOf cf) y x).map fun x=>(enc x).map .v):=by
 refine ⟨fun e he => ?_,fun w M v vs m hM hm hvs hB hv => ?_⟩
 ·obtain ⟨x,_,rfl⟩:=List.mem_map.1 he
  exact flatL_v _
 match vs,hvs with
 | [u],⟨hu,_⟩ =>
  obtain ⟨ps,rfl,hps⟩:=crefs_rel (show Rep w M (.clo g caps) u from hu)
  obtain ⟨x,rfl,hx⟩:=hv
  obtain ⟨⟨k1,k2,k3,k4,k5⟩,hreal⟩:=hB
  refine ⟨ρ.f 6,es _ _,?_⟩
  rw [List.length_map] at k2
  cases d with
  | nil =>
   have k2:0=m.len:=k2
   rw [← k2]
   refine (AnyF.slices_SortFunc_none L x m.cap _ w).mono ?_
   rintro e w' ⟨rfl,rfl⟩
   exact ⟨rfl,.refl _ _ _,⟨by simp,by simpa using k2,fun _=>by simp,rfl,k5⟩,by simpa using hreal⟩
  | cons y ys =>
   have hc0:0<m.cap:=by
    rcases Nat.eq_zero_or_pos m.cap with h|h
    ·have:=k3 h;simp at this
    ·exact h
   rw [hx hc0,← k2]
   obtain ⟨cs,⟨T,hcs⟩,c1,c2,c3,vals,rest,c4,c5⟩:=hreal (by simpa [Blk.real] using hc0)
   rw [flatten_v] at c5
   have hvals:=dsR_flat c5
   generalize hd:y::ys=d at *
   have hm':∀ x∈d.map enc,x.length=k:=fun x hx=>by obtain ⟨y,_,rfl⟩:=List.mem_map.1 hx;exact hk y
   have hfl:(d.map enc).flatten.length=d.length*k:=by rw [flat_len2 hm',List.length_map]
   have hbl:m.b<w.heap.size:=hM _ (hm hc0)
   have hH:HoldsK enc k w m.b 0 d.toArray:=by
    intro j hj
    have hj':j<d.length*k:=by simpa using hj
    rw [Nat.zero_add]
    refine ⟨?_,frozen_of_row w m.b j cs.toArray T hcs⟩
    rw [cell_of ⟨T,hcs⟩,c4,List.getElem?_append_left (by rw [hvals,hfl];exact hj'),hvals,← flatK_toList hk0 hk,Array.getElem?_toList,getElem!_pos (flatK enc k d.toArray) j hj,Array.getElem?_eq_getElem hj]
    rfl
   have hHold:∀ n (dk:Array α) os,Sx.Holds M w (sortWorldK enc k w m.b 0 n dk os):=fun n dk os =>
    ⟨size_sort,fun b hb hMb _=>heap_sort_other hb fun e=>hMb (by rw [e];exact hm hc0)⟩
   have hC:CmpLays P g ps.toArray enc k cf m.b 0 d.toArray.size w:=by
    intro n os dk hdk a b
    have hargs:DCsR (sortWorldK enc k w m.b 0 n dk os) M ([.agg ((enc a).map .v),.agg ((enc b).map .v)]++refsC caps) ([.agg (enc a).toArray,.agg (enc b).toArray]++ps) :=
     ⟨⟨_,rfl,dsR_of_flat (h1 a)⟩,⟨_,rfl,dsR_of_flat (h1 b)⟩,hps.mono (hHold n dk os) (fun _ _ h=>h)⟩
    rcases hcmp a b _ M _ ⟨fun b hb=>Nat.lt_of_lt_of_le (hM b hb) size_sort,gd_keep size_sort (fun b hb=>heap_sort_other (Nat.lt_of_lt_of_le hb (gd_size hM.gd)) fun e=>by have:=hM.ge _ (hm hc0);omega) hM.gd,hM.ge⟩ hargs with ⟨g',hg,hc⟩|⟨_,hg,_⟩
    ·rw [eg] at hg
     injection hg with h2
     injection h2 with h2
     subst h2
     have e:(#[Value.agg (enc a).toArray,.agg (enc b).toArray]++ps.toArray:Array Value)=([Value.agg (enc a).toArray,Value.agg (enc b).toArray]++ps).toArray:=by simp
     rw [e]
     refine hc.mono ?_
     rintro e w' ⟨u,rfl,hu,hb,hdr⟩
     have hu:Rep w' M (.v (.int .i64 (cf a b))) u:=hu
     cases hu
     obtain ⟨q,hq⟩:=regrown_of_below hb
     have hqd:w'.drawn=q.d:=by rw [hq];rfl
     refine ⟨rfl,q.d-(sortWorldK enc k w m.b 0 n dk os).drawn,q.os,?_⟩
     rw [hq]
     unfold redrawn World.drewN
     rw [show (sortWorldK enc k w m.b 0 n dk os).drawn+(q.d-(sortWorldK enc k w m.b 0 n dk os).drawn)=q.d by omega]
    ·rw [eg] at hg
     injection hg with h2
     cases h2
   have hlaw:=AnyQ.slices_SortFunc_total L k aE zE enc hk (fun x v hv=>(h1 x v hv).1) cf hO g ps.toArray m.b 0 m.cap d.toArray w eg hC hH hbl (by simpa using hsz) hT
   have e0:d.toArray.size=d.length:=by simp
   rw [e0] at hlaw
   refine hlaw.mono ?_
   rintro e w' ⟨rfl,n,os,rfl⟩
   generalize hs:(d.mergeSort fun x y => !(ltOf cf) y x)=s at *
   have hsl:s.length=d.length:=by rw [← hs];exact List.length_mergeSort _
   have hms:∀ x∈s.map enc,x.length=k:=fun x hx=>by obtain ⟨y,_,rfl⟩:=List.mem_map.1 hx;exact hk y
   have hsfl:(s.map enc).flatten.length=d.length*k:=by rw [flat_len2 hms,List.length_map,hsl]
   refine ⟨rfl,⟨rfl,rfl,rfl,size_sort,fun b hb hne=>heap_sort_other hb fun e=>hne ⟨hc0,e⟩,.inr ?_⟩,⟨fun x hx => ?_,by rw [List.length_map,hsl,k2],fun h=>by omega,rfl,k5⟩,fun _ => ?_⟩
   ·show w.drawn≤w.drawn+n
    omega
   ·obtain ⟨y,_,rfl⟩:=List.mem_map.1 hx
    rw [List.length_map];exact hk y
   ·have hsize:(flatK enc k s.toArray).size=d.length*k:=by simp [hsl]
    have hle:(flatK enc k s.toArray).size≤cs.length:=by rw [hsize,c3];exact Nat.mul_le_mul_right _ (by simpa using c1)
    refine ⟨(flatK enc k s.toArray).toList++cs.drop (flatK enc k s.toArray).size,⟨T,?_⟩,by rw [List.length_map,hsl];simpa using c1,c2,?_,(flatK enc k s.toArray).toList,cs.drop (flatK enc k s.toArray).size,rfl,?_⟩
    ·rw [heap_sort hcs,← put_flat hle]
    ·rw [List.length_append,Array.length_toList,List.length_drop]
     omega
    ·rw [flatten_v,flatK_toList hk0 hk]
     exact dsR_of_flat fun v hv=>by
      obtain ⟨x,hx,hvx⟩:=List.mem_flatten.1 hv
      obtain ⟨z,_,rfl⟩:=List.mem_map.1 hx
      exact h1 z v hvx
end Sx
end Go.Proofs.YtfkfficabeclcaaGreatDoor
