import Derived.Test.YtfkfficabeclcaaGreatDoorGLTTelAP
import Derived.Test.YtfkfficabeclcaaGreatDoorGLTTelAJ
import Derived.Test.YtfkfficabeclcaaGreatDoorGLTTelAO
import Derived.Laws.Strings
import Derived.Laws.Concat
import Derived.Lib.Strings
import Derived.Test.YtfkfficabeclcaaGreatDoorRows
import Derived.Test.YtfkfficabeclcaaGreatDoorTie
import Derived.Test.YtfkfficabeclcaaGreatDoorCards
import Derived.Test.YtfkfficabeclcaaGreatDoorGLTTelAK
import Derived.Test.YtfkfficabeclcaaGreatDoorGLTTelAM
import Derived.Deep.DeepHandedRow
import Derived.Deep.DeepLaidRun
import Derived.LaidSub
import Derived.SevenTiedAt
import Derived.Stop.LaidErr
import Derived.Shelf.SlSortCmp.WholeK
import Derived.Shelf.SlSortCmp.NoneTotal
import Derived.Ground.SlsfProg
import Derived.Test.YtfkfficabeclcaaGreatDoorProg
set_option linter.all false
namespace Go.Proofs.YtfkfficabeclcaaGreatDoor
open Go.RowKit Go.Sort Sx
theorem Pt.eq_iff {p q:Pt}:p=q↔p.id=q.id∧p.a=q.a∧p.b=q.b:=by
 cases p;cases q;simp
theorem take_all_eq {α:Type} {a b:List α} {i:Nat} (h:a.take i=b.take i) (hl:a.length=b.length) (hi:a.length≤i):a=b:=by
 rw [List.take_of_length_le hi,List.take_of_length_le (by omega)] at h;exact h
theorem take_succ_eq {α:Type} {a b:List α} {i:Nat} (h:a.take i=b.take i) (h1:i<a.length) (h2:i<b.length) (e:a[i]=b[i]):a.take (i+1)=b.take (i+1):=by
 rw [List.take_succ_eq_append_getElem h1,List.take_succ_eq_append_getElem h2,h,e]
theorem ne_of_get {α:Type} {a b:List α} {i:Nat} (h1:i<a.length) (h2:i<b.length) (e:a[i]≠b[i]):a≠b:=by
 rintro rfl;exact e rfl
structure Md where
 n:Int
 d:Int
 l:List Pt
 deriving DecidableEq,Inhabited
def Md.c (m:Md):List D:=[i64 m.n,i64 m.d,pts m.l]
abbrev Md.dc (m:Md):DC:=.agg [i64 m.n,i64 m.d,pts m.l]
def mchk (m:Md):Int:=if askd m.n m.d=0∧fchk m.l=0 then 0 else 8
theorem mchk_08 (m:Md):mchk m=0∨mchk m=8:=by unfold mchk;split<;>simp
theorem mchk_ok {m:Md} (h:mchk m=0):askd m.n m.d=0∧fchk m.l=0:=by
 unfold mchk at h
 split at h
 ·assumption
 ·omega
theorem mchk_orN (m:Md):mchk m=if orN (askd m.n m.d) (fchk m.l)=0 then 0 else 8:=by
 unfold mchk orN
 by_cases h:askd m.n m.d=0<;>simp [h]
theorem rfSame_fn (a b:List Pt):FnOK Tryz.prog 54 [fld a,fld b] (.c (.one (bol (decide (a=b))))):=by
 refine fn_ok (by kernel_rfl) ty_ok Tryz.func54 rfl (fun _ _=>Tryz.call54 _ _) rfl ?_
 intro hw
 simp only [WDCs,WDC,WDs] at hw
 obtain ⟨w1,_⟩:=wd_pts hw.1.1
 obtain ⟨w2,_⟩:=wd_pts hw.2.1.1
 clear hw
 by_cases h0:a.length=b.length
 ·repeat' ((conv=>whnf);first|(with_reducible first|refine br_t ?_|refine br_f ?_|refine za ?_|refine zg ?_)|rw [List.length_map]|refine zp ?_|refine zq ?_|(with_reducible first|refine bc (fun h => ?_) (fun h => ?_)|refine zt ?_|refine zf ?_|refine br_i (fun h => ?_) (fun h => ?_)|refine xi (pv_bool fun _=>nev43 _ _ _ _ _ _ _ _ _) ?_)|refine zg ?_|refine zi ?_|refine zb ?_)
  refine loop_J (by kernel_rfl) ty_ok (σ:=Nat) (fun i=>[(5,sV (.int .i64 i))]) (fun _=>[]) (fun i=>i≤a.length∧a.take i=b.take i) (fun i=>a.length-i) 0 ⟨by omega,rfl⟩ ?_ ?_
  ·(conv=>whnf);exact zent
  rintro i ⟨hi,hI⟩
  rcases Nat.lt_or_ge i a.length with hlt|hge
  ·have hb:i<b.length:=by omega
   have he1:=pts_get hlt
   have he2:=pts_get hb
   by_cases hc:a[i]=b[i]
   ·have hq:=Pt.eq_iff.1 hc
    repeat' ((conv=>whnf);first|(with_reducible first|refine br_t ?_|refine br_f ?_|refine za ?_|refine zg ?_)|rw [List.length_map]|refine zp ?_|refine zq ?_|(with_reducible first|refine bc (fun h => ?_) (fun h => ?_)|refine zt ?_|refine zf ?_|refine br_i (fun h => ?_) (fun h => ?_)|refine xi (pv_bool fun _=>nev43 _ _ _ _ _ _ _ _ _) ?_)|refine zg ?_|refine zi ?_|refine zb ?_)
    all_goals conv=>whnf
    refine ⟨i+1,⟨by omega,take_succ_eq hI hlt hb hc⟩,?_,by omega⟩
    (conv=>whnf);exact zent
   ·have hq:=mt Pt.eq_iff.2 hc
    rw [decide_eq_false (ne_of_get hlt hb hc)]
    repeat' ((conv=>whnf);first|(with_reducible first|refine br_t ?_|refine br_f ?_|refine za ?_|refine zg ?_)|rw [List.length_map]|refine zp ?_|refine zq ?_|(with_reducible first|refine bc (fun h => ?_) (fun h => ?_)|refine zt ?_|refine zf ?_|refine br_i (fun h => ?_) (fun h => ?_)|refine xi (pv_bool fun _=>nev43 _ _ _ _ _ _ _ _ _) ?_)|refine zg ?_|refine zi ?_|refine zb ?_)
    all_goals conv=>whnf
    all_goals rfl
  ·rw [decide_eq_true (take_all_eq hI h0 hge)]
   repeat' ((conv=>whnf);first|(with_reducible first|refine br_t ?_|refine br_f ?_|refine za ?_|refine zg ?_)|rw [List.length_map]|refine zp ?_|refine zq ?_|(with_reducible first|refine bc (fun h => ?_) (fun h => ?_)|refine zt ?_|refine zf ?_|refine br_i (fun h => ?_) (fun h => ?_)|refine xi (pv_bool fun _=>nev43 _ _ _ _ _ _ _ _ _) ?_)|refine zg ?_|refine zi ?_|refine zb ?_)
   all_goals conv=>whnf
   all_goals rfl
 ·rw [decide_eq_false (fun h=>h0 (congrArg List.length h))]
  repeat' ((conv=>whnf);first|(with_reducible first|refine br_t ?_|refine br_f ?_|refine za ?_|refine zg ?_)|rw [List.length_map]|refine zp ?_|refine zq ?_|(with_reducible first|refine bc (fun h => ?_) (fun h => ?_)|refine zt ?_|refine zf ?_|refine br_i (fun h => ?_) (fun h => ?_)|refine xi (pv_bool fun _=>nev43 _ _ _ _ _ _ _ _ _) ?_)|refine zg ?_|refine zi ?_|refine zb ?_)
  all_goals conv=>whnf
  all_goals rfl
theorem ofirst_fn (a b:Int):FnOK Tryz.prog 66 [.one (.list 1 [[i64 a],[i64 b]])] (ret1 (orN a b)):=by
 refine fn_ok (by kernel_rfl) ty_ok Tryz.func66 rfl (fun _ _=>Tryz.call66 _ _) rfl ?_
 intro hw
 repeat' ((conv=>whnf);first|(with_reducible first|refine br_t ?_|refine br_f ?_|refine za ?_|refine zg ?_)|refine zp ?_|refine zq ?_|(with_reducible first|refine bc (fun h => ?_) (fun h => ?_)|refine zt ?_|refine zf ?_|refine br_i (fun h => ?_) (fun h => ?_))|refine zg ?_|refine zi ?_|refine zb ?_)
 refine loop_J (by kernel_rfl) ty_ok (σ:=Nat) (fun i=>[(7,sV (.int .i64 i))]) (fun _=>[]) (fun i=>i=0∨(i=1∧a=0)∨(i=2∧a=0∧b=0)) (fun i=>2-i) 0 (.inl rfl) ?_ ?_
 ·(conv=>whnf);exact zent
 intro i hi
 have hlen:([[i64 a],[i64 b]]:List (List D)).length=2:=rfl
 have hel0:([[i64 a],[i64 b]]:List (List D))[((0:Nat):Int).toNat]? = some [i64 a]:=rfl
 have hel1:([[i64 a],[i64 b]]:List (List D))[((1:Nat):Int).toNat]? = some [i64 b]:=rfl
 have q0:0≤((0:Nat):Int)∧((0:Nat):Int)<(([[i64 a],[i64 b]]:List (List D)).length:Int):=⟨by omega,by simp⟩
 have q1:0≤((1:Nat):Int)∧((1:Nat):Int)<(([[i64 a],[i64 b]]:List (List D)).length:Int):=⟨by omega,by simp⟩
 rcases hi with rfl|⟨rfl,h1⟩|⟨rfl,h1,h2⟩
 ·repeat' ((conv=>whnf);first|(with_reducible first|refine br_t ?_|refine br_f ?_|refine za ?_|refine zg ?_)|first|(refine (Exists.intro _ (And.intro (And.intro hel0 (Nat.le_of_ble_eq_true rfl)) ?_)))|(refine And.intro q0 ?_)|refine zp ?_|refine zq ?_|(with_reducible first|refine bc (fun h => ?_) (fun h => ?_)|refine zt ?_|refine zf ?_|refine br_i (fun h => ?_) (fun h => ?_))|refine zg ?_|refine zi ?_|refine zb ?_)
  all_goals conv=>whnf
  ·refine r_int ?_
   unfold orN;rw [if_neg (by assumption)]
  ·refine ⟨1,.inr (.inl ⟨rfl,by omega⟩),?_,by show 2-1<2-0;decide⟩
   (conv=>whnf);exact zent
 ·repeat' ((conv=>whnf);first|(with_reducible first|refine br_t ?_|refine br_f ?_|refine za ?_|refine zg ?_)|first|(refine (Exists.intro _ (And.intro (And.intro hel1 (Nat.le_of_ble_eq_true rfl)) ?_)))|(refine And.intro q1 ?_)|refine zp ?_|refine zq ?_|(with_reducible first|refine bc (fun h => ?_) (fun h => ?_)|refine zt ?_|refine zf ?_|refine br_i (fun h => ?_) (fun h => ?_))|refine zg ?_|refine zi ?_|refine zb ?_)
  all_goals conv=>whnf
  ·refine r_int ?_
   unfold orN;rw [if_pos h1]
  ·refine ⟨2,.inr (.inr ⟨rfl,h1,by omega⟩),?_,by show 2-2<2-1;decide⟩
   (conv=>whnf);exact zent
 ·repeat' ((conv=>whnf);first|(with_reducible first|refine br_t ?_|refine br_f ?_|refine za ?_|refine zg ?_)|refine zp ?_|refine zq ?_|(with_reducible first|refine bc (fun h => ?_) (fun h => ?_)|refine zt ?_|refine zf ?_|refine br_i (fun h => ?_) (fun h => ?_))|refine zg ?_|refine zi ?_|refine zb ?_)
  all_goals conv=>whnf
  refine r_int ?_
  unfold orN;rw [if_pos h1];exact h2.symm
theorem oCheck_fn (m:Md):FnOK Tryz.prog 31 [m.dc] (ret1 (mchk m)):=by
 refine fn_ok (by kernel_rfl) ty_ok Tryz.func31 rfl (fun _ _=>Tryz.call31 _ _) rfl ?_
 intro hw
 clear hw
 rw [mchk_orN]
 have H:=ofirst_fn (askd m.n m.d) (fchk m.l)
 generalize orN (askd m.n m.d) (fchk m.l)=z at *
 by_cases h:z=0
 all_goals
  repeat' ((conv=>whnf);first|(with_reducible first|refine br_t ?_|refine br_f ?_|refine za ?_|refine zg ?_|refine xi (asked_fn _ _) ?_|refine xi (fCheck_fn _) ?_)|refine zp ?_|refine zq ?_|(with_reducible first|refine bc (fun h => ?_) (fun h => ?_)|refine zt ?_|refine zf ?_|refine br_i (fun h => ?_) (fun h => ?_))|refine zg ?_|refine zi ?_|refine zb ?_)
  all_goals conv=>whnf
  all_goals simp [h]
theorem roCheck_fn (m:Md):FnOK Tryz.prog 23 [m.dc] (ret1 (mchk m)):=by
 refine fn_ok (by kernel_rfl) ty_ok Tryz.func23 rfl (fun _ _=>Tryz.call23 _ _) rfl ?_
 intro hw
 clear hw
 unfold mchk
 have H1:=rasked_fn m.n m.d
 have H2:=rfCheck_fn m.l
 generalize askd m.n m.d=z at *
 generalize fchk m.l=y at *
 by_cases h:z=0<;>by_cases h':y=0
 all_goals
  repeat' ((conv=>whnf);first|(with_reducible first|refine br_t ?_|refine br_f ?_|refine za ?_|refine zg ?_)|refine zp ?_|refine zq ?_|(with_reducible first|refine bc (fun h => ?_) (fun h => ?_)|refine zt ?_|refine zf ?_|refine br_i (fun h => ?_) (fun h => ?_))|refine zg ?_|refine zi ?_|refine zb ?_)
  all_goals conv=>whnf
  all_goals simp [h,h']
theorem roSameModel_fn (m n:Md):FnOK Tryz.prog 20 [m.dc,n.dc] (.c (.one (bol (decide (m=n))))):=by
 refine fn_ok (by kernel_rfl) ty_ok Tryz.func20 rfl (fun _ _=>Tryz.call20 _ _) rfl ?_
 intro hw
 clear hw
 have H:=rfSame_fn m.l n.l
 have he:(m=n)↔(m.n=n.n∧m.d=n.d)∧m.l=n.l:=by cases m;cases n;simp [and_assoc]
 rw [show decide (m=n)=decide ((m.n=n.n∧m.d=n.d)∧m.l=n.l) from decide_eq_decide.2 he]
 by_cases h:m.n=n.n∧m.d=n.d
 all_goals
  cases hz:decide (m.l=n.l)
  all_goals
   rw [hz] at H
   repeat' ((conv=>whnf);first|(with_reducible first|refine br_t ?_|refine br_f ?_|refine za ?_|refine zg ?_)|refine zp ?_|refine zq ?_|(with_reducible first|refine bc (fun h => ?_) (fun h => ?_)|refine zt ?_|refine zf ?_|refine br_i (fun h => ?_) (fun h => ?_)|refine xi (pv_bool fun _=>eqv25 _ _ _ _ _ _ _) ?_)|refine zg ?_|refine zi ?_|refine zb ?_)
   all_goals conv=>whnf
   all_goals simp at hz
   all_goals simp [h,hz]
end Go.Proofs.YtfkfficabeclcaaGreatDoor

namespace Go.Proofs.YtfkfficabeclcaaGreatDoor
open Go Go.RowKit Sx
namespace Sx
def shModel:Sh:=.st (.fc 2 shRatio (.fc 1 shField .f0))
end Sx
theorem fits_model {ds:List D} (h:Fits shModel ds):∃ m:Md,ds=m.c:=by
 obtain ⟨_,_,rfl,h1,_,_,rfl,h2,rfl⟩:=h
 obtain ⟨n,d,rfl⟩:=fits_ratio h1
 obtain ⟨l,rfl⟩:=fits_field h2
 exact ⟨⟨n,d,l⟩,rfl⟩
theorem fit_model {c:DC} (h:FitC shModel c):∃ m:Md,c=m.dc:=by
 obtain ⟨ds,rfl,h⟩:=h
 obtain ⟨m,rfl⟩:=fits_model h
 exact ⟨m,rfl⟩
end Go.Proofs.YtfkfficabeclcaaGreatDoor

namespace Go.Proofs.YtfkfficabeclcaaGreatDoor
open Go Go.RowKit Go.Sort Sx
abbrev u8 (n:Int):D:=.v (.int .u8 n)
structure Ak where
 k:Int
 p:Pt
 id:Int
 n:Int
 d:Int
 deriving DecidableEq,Inhabited
def Ak.c (a:Ak):List D:=[u8 a.k,i64 a.p.id,i64 a.p.a,i64 a.p.b,i64 a.id,i64 a.n,i64 a.d]
abbrev Ak.dc (a:Ak):DC:=.agg [u8 a.k,i64 a.p.id,i64 a.p.a,i64 a.p.b,i64 a.id,i64 a.n,i64 a.d]
def formV (a:Ak):Bool :=
 decide ((a.k=1∨a.k=3)∧a.id=0∧a.n=0∧a.d=0∨a.k=2∧a.p.id=0∧a.p.a=0∧a.p.b=0∧a.n=0∧a.d=0∨a.k=4∧a.p.id=0∧a.p.a=0∧a.p.b=0∧a.id=0 ∨
  (a.k=5∨a.k=6)∧a.p.id=0∧a.p.a=0∧a.p.b=0∧a.id=0∧a.n=0∧a.d=0)
end Go.Proofs.YtfkfficabeclcaaGreatDoor

namespace Go.Proofs.YtfkfficabeclcaaGreatDoor
open Go Go.RowKit
namespace Sx
variable {P:Program} {sz:Nat} {E:Env} {H:Hp}
def kpE (ks:List Nat):List Nat→Env→Env
 | _,[]=>[]
 | D,(t,x)::r=>match memB t D with
  | true=>kpE ks D r
  | false=>match memB t ks with|true=>(t,x)::kpE ks (t::D) r|false=>kpE ks (t::D) r
theorem look_kpE {ks:List Nat}:∀ {E:Env} {D:List Nat} {t:Nat} {x:SV},look (kpE ks D E) t=some x→t ∉ D∧look E t=some x
 | [],D,t,x,h=>by simp [kpE,look] at h
 | (u,y)::r,D,t,x,h=>by
  unfold kpE at h
  rw [look_cons]
  split at h
  ·rename_i hm
   obtain ⟨h1,h2⟩:=look_kpE h
   exact ⟨h1,by rw [if_neg (by rintro rfl;exact h1 (memB_iff.1 hm))];exact h2⟩
  ·rename_i hm
   have hm':u ∉ D:=fun h'=>by rw [memB_iff.2 h'] at hm;cases hm
   split at h
   ·rw [look_cons] at h
    split at h
    ·rename_i e
     injection h with h
     subst e h
     exact ⟨hm',by rw [if_pos rfl]⟩
    ·obtain ⟨h1,h2⟩:=look_kpE h
     refine ⟨fun h'=>h1 (List.mem_cons_of_mem _ h'),?_⟩
     rename_i e
     rw [if_neg e];exact h2
   ·obtain ⟨h1,h2⟩:=look_kpE h
    exact ⟨fun h'=>h1 (List.mem_cons_of_mem _ h'),by rw [if_neg (by rintro rfl;exact h1 (List.mem_cons_self ..))];exact h2⟩
theorem loop_keep (ks:List Nat) {dm:Bool} {body:Code} {k:Exit→Env→Hp→Prop} (h:frcEnv (kpE ks [] E) fun E1=>LoopP P sz dm body E1 H k):LoopP P sz dm body E H k :=
 ⟨fun C M0 w0 ρ a w Q hdm R hQ=>((frcEnv_iff _ _).1 h).run C M0 w0 ρ a w Q hdm (R.same (fun t x hx=>(look_kpE hx).2) fun _=>rfl) hQ⟩
end Sx
end Go.Proofs.YtfkfficabeclcaaGreatDoor

namespace Go.Proofs.YtfkfficabeclcaaGreatDoor
open Go Go.RowKit Go.Sort Sx
abbrev bstr (l:List UInt8):Value:=.string ⟨l.toArray⟩
abbrev str (l:List UInt8):Sx.D:=.v (.string ⟨l.toArray⟩)
theorem str_toList (a:List UInt8):(⟨a.toArray⟩:ByteArray).toList=a:=by rw [Lib.toList_data]
theorem str_size (a:List UInt8):(⟨a.toArray⟩:ByteArray).size=a.length:=rfl
theorem str_append (a b:List UInt8):(⟨a.toArray⟩:ByteArray)++⟨b.toArray⟩=⟨(a++b).toArray⟩:=by
 apply ByteArray.ext
 simp
theorem str_extract (a:List UInt8) (i j:Nat):(⟨a.toArray⟩:ByteArray).extract i j=⟨((a.take j).drop i).toArray⟩:=by
 apply ByteArray.ext
 rw [ByteArray.data_extract]
 apply Array.ext'
 simp [List.extract_eq_take_drop,List.drop_take]
theorem str_get (a:List UInt8) (i:Nat):(⟨a.toArray⟩:ByteArray)[i]? = a[i]? := by
 by_cases h:i<a.length
 ·have h':i<(⟨a.toArray⟩:ByteArray).size:=h
  rw [List.getElem?_eq_getElem h,getElem?_pos (⟨a.toArray⟩:ByteArray) i h'];rfl
 ·have h':¬ i<(⟨a.toArray⟩:ByteArray).size:=h
  rw [List.getElem?_eq_none (by omega),getElem?_neg (⟨a.toArray⟩:ByteArray) i h']
theorem run_cat {P:Program} {t:Nat} {x y:Operand} {a b:List UInt8} (h:a.length+b.length≤9223372036854775807) (w:World):(do eqGuard .add t x y (bstr a) (bstr b);binOp .add t (bstr a) (bstr b):Sem Value).run P w=.ok (bstr (a++b)) w:=by
 have:=run_string_add_sum (P:=P) (w:=w) (⟨a.toArray⟩:ByteArray) ⟨b.toArray⟩ h
 simp only [Sem.run_bind]
 show (binOp .add t (bstr a) (bstr b)).run P w=_
 rw [binOp_string_add,this,str_append]
theorem run_seq {P:Program} {t:Nat} {x y:Operand} {a b:List UInt8} (w:World):(do eqGuard .eql t x y (bstr a) (bstr b);binOp .eql t (bstr a) (bstr b):Sem Value).run P w=.ok (.bool (decide (a=b))) w:=by
 simp only [Sem.run_bind]
 show (binOp .eql t (bstr a) (bstr b)).run P w=_
 rw [binOp_string_eql,str_toList,str_toList]
 simp [go_sem]
 by_cases h:a=b<;>simp [h]
theorem run_sne {P:Program} {t:Nat} {x y:Operand} {a b:List UInt8} (w:World):(do eqGuard .neq t x y (bstr a) (bstr b);binOp .neq t (bstr a) (bstr b):Sem Value).run P w=.ok (.bool (decide (¬ a=b))) w:=by
 simp only [Sem.run_bind]
 show (binOp .neq t (bstr a) (bstr b)).run P w=_
 rw [binOp_string_neq,str_toList,str_toList]
 simp [go_sem]
 by_cases h:a=b<;>simp [h]
theorem cat_pv {P:Program} {t:Nat} {x y:Operand} {a b:List UInt8} (h:a.length+b.length≤9223372036854775807):(bstr (a++b)).oneCell'=true∧wfV (bstr (a++b))∧∀ w,(do eqGuard .add t x y (bstr a) (bstr b);binOp .add t (bstr a) (bstr b):Sem Value).run P w=.ok (bstr (a++b)) w:=⟨rfl,trivial,run_cat h⟩
theorem seq_pv {P:Program} {t:Nat} {x y:Operand} {a b:List UInt8}:(Value.bool (decide (a=b))).oneCell'=true∧wfV (.bool (decide (a=b)))∧∀ w,(do eqGuard .eql t x y (bstr a) (bstr b);binOp .eql t (bstr a) (bstr b):Sem Value).run P w=.ok (.bool (decide (a=b))) w:=⟨rfl,trivial,run_seq⟩
theorem sne_pv {P:Program} {t:Nat} {x y:Operand} {a b:List UInt8}:(Value.bool (decide (¬ a=b))).oneCell'=true∧wfV (.bool (decide (¬ a=b)))∧∀ w,(do eqGuard .neq t x y (bstr a) (bstr b);binOp .neq t (bstr a) (bstr b):Sem Value).run P w=.ok (.bool (decide (¬ a=b))) w:=⟨rfl,trivial,run_sne⟩
theorem po_sidx {P:Program} {o:Oper} {t:Nat} {x y:Operand} {l:List UInt8} {k:IntKind} {i:Int} (ho:o.op=.index t x y) (ht:P.underlying t=some .string) (h0:0≤i) (hi:i.toNat<l.length):PureOp P o [bstr l,.int k i] (.int .u8 (l[i.toNat].toNat:Int)):=by
 refine ⟨rfl,?_,fun f hf w => ?_⟩
 ·show inK .u8 _
  have:=l[i.toNat].toNat_lt
  simp only [inK];omega
 ·rw [ho] at hf
  simp only [Op.operands,List.map_cons,List.map_nil,List.cons.injEq,and_true] at hf
  simp [execOp,ho,hf.1,hf.2,Instr.index,asIntOf,run_underlying ht,h0,str_get,List.getElem?_eq_getElem hi]
theorem po_ssl {P:Program} {o:Oper} {t:Nat} {x y z:Operand} {l:List UInt8} {k k':IntKind} {i j:Int} (ho:o.op=.slice t x (some y) (some z) none) (ht:P.underlying t=some .string) (h0:0≤i) (h1:i≤j) (h2:j≤l.length):PureOp P o [bstr l,.int k i,.int k' j] (bstr ((l.take j.toNat).drop i.toNat)):=by
 refine ⟨rfl,trivial,fun f hf w => ?_⟩
 rw [ho] at hf
 simp [Op.operands] at hf
 have e1:((j.toNat:Nat):Int)=j:=by omega
 simp [execOp,ho,hf,Instr.sliceAt,Instr.slice,Instr.sliceBounds,Instr.sliceBound,asIntOf,run_underlying ht,str_size,h0,h1,h2,e1,str_extract,show 0≤j by omega]
theorem po_ssl1 {P:Program} {o:Oper} {t:Nat} {x y:Operand} {l:List UInt8} {k:IntKind} {i:Int} (ho:o.op=.slice t x (some y) none none) (ht:P.underlying t=some .string) (h0:0≤i) (h1:i≤l.length):PureOp P o [bstr l,.int k i] (bstr (l.drop i.toNat)):=by
 refine ⟨rfl,trivial,fun f hf w => ?_⟩
 rw [ho] at hf
 simp [Op.operands] at hf
 have e1:l.drop i.toNat=(l.take l.length).drop i.toNat:=by rw [List.take_length]
 rw [e1]
 simp [execOp,ho,hf,Instr.sliceAt,Instr.slice,Instr.sliceBounds,Instr.sliceBound,asIntOf,run_underlying ht,str_size,h0,h1,str_extract]
theorem po_slen {P:Program} {o:Oper} {t:Nat} {x:Operand} {l:List UInt8} {c:Call} (ho:o.op=.call c) (hc:c.callee=.builtin .len) (ha:c.args=#[x]) (hat:c.argTypes=#[t]) (ht:P.underlying t=some .string) (hl:l.length≤9223372036854775807):PureOp P o [bstr l] (.int .i64 (l.length:Int)):=by
 refine ⟨rfl,⟨by omega,by omega⟩,fun f hf w => ?_⟩
 rw [ho] at hf
 simp [Op.operands,Call.operands,hc,ha] at hf
 simp [execOp,ho,resolve,hc,ha,hat,invoke,builtin,hf,Builtin.len_,run_underlying ht,str_size,goInt]
theorem po_sget {P:Program} {o:Oper} {t:Nat} {x y:Operand} {l:List UInt8} {k:IntKind} {i:Int} {b:UInt8} (ho:o.op=.index t x y) (ht:P.underlying t=some .string) (h0:0≤i) (hi:l[i.toNat]? = some b):PureOp P o [bstr l,.int k i] (.int .u8 (b.toNat:Int)):=by
 obtain ⟨h,e⟩:=List.getElem?_eq_some_iff.1 hi
 have:=po_sidx (P:=P) (k:=k) ho ht h0 h
 rw [e] at this;exact this
theorem zsl {o:Oper} {x:Operand} {c:Call} {l:List UInt8} {K:Value→Prop} (k:K (.int .i64 (l.length:Int))) (h:l.length≤9223372036854775807:=by first|omega|(simp only [List.length_append,List.length_cons,List.length_nil];omega)) (ho:o.op=.call c:=by rfl) (hc:c.callee=.builtin .len:=by rfl) (ha:c.args=#[x]:=by rfl) (hat:c.argTypes=#[9]:=by rfl):∃ v,PureOp Tryz.prog o [bstr l] v∧K v:=⟨_,po_slen ho hc ha hat Tryz.underlying9 h,k⟩
theorem zsg {o:Oper} {x y:Operand} {l:List UInt8} {kk:IntKind} {i:Int} {b:UInt8} {K:Value→Prop} (k:K (.int .u8 (b.toNat:Int))) (hi:l[i.toNat]? = some b:=by assumption) (h0:0≤i:=by omega) (ho:o.op=.index 9 x y:=by rfl):∃ v,PureOp Tryz.prog o [bstr l,.int kk i] v∧K v:=⟨_,po_sget ho Tryz.underlying9 h0 hi,k⟩
theorem zss {o:Oper} {x y z:Operand} {l:List UInt8} {kk kk':IntKind} {i j:Int} {K:Value→Prop} (k:K (bstr ((l.take j.toNat).drop i.toNat))) (h0:0≤i:=by omega) (h1:i≤j:=by omega) (h2:j≤l.length:=by omega) (ho:o.op=.slice 9 x (some y) (some z) none:=by rfl):∃ v,PureOp Tryz.prog o [bstr l,.int kk i,.int kk' j] v∧K v:=⟨_,po_ssl ho Tryz.underlying9 h0 h1 h2,k⟩
theorem zs1 {o:Oper} {x y:Operand} {l:List UInt8} {kk:IntKind} {i:Int} {K:Value→Prop} (k:K (bstr (l.drop i.toNat))) (h0:0≤i:=by omega) (h1:i≤l.length:=by omega) (ho:o.op=.slice 9 x (some y) none none:=by rfl):∃ v,PureOp Tryz.prog o [bstr l,.int kk i] v∧K v:=⟨_,po_ssl1 ho Tryz.underlying9 h0 h1,k⟩
theorem zse {t:Nat} {x y:Operand} {a b:List UInt8} {K:Value→Prop} (k:K (.bool (decide (a=b)))):∃ v,(v.oneCell'=true∧wfV v∧∀ w,(do eqGuard .eql t x y (bstr a) (bstr b);binOp .eql t (bstr a) (bstr b):Sem Value).run Tryz.prog w=.ok v w)∧K v:=⟨_,seq_pv,k⟩
theorem zsn {t:Nat} {x y:Operand} {a b:List UInt8} {K:Value→Prop} (k:K (.bool (decide (¬ a=b)))):∃ v,(v.oneCell'=true∧wfV v∧∀ w,(do eqGuard .neq t x y (bstr a) (bstr b);binOp .neq t (bstr a) (bstr b):Sem Value).run Tryz.prog w=.ok v w)∧K v:=⟨_,sne_pv,k⟩
theorem zsc {t:Nat} {x y:Operand} {a b:List UInt8} {K:Value→Prop} (k:K (bstr (a++b))) (h:a.length+b.length≤9223372036854775807:=by first|omega|(simp only [List.length_append,List.length_cons,List.length_nil];omega)):∃ v,(v.oneCell'=true∧wfV v∧∀ w,(do eqGuard .add t x y (bstr a) (bstr b);binOp .add t (bstr a) (bstr b):Sem Value).run Tryz.prog w=.ok v w)∧K v:=⟨_,cat_pv h,k⟩
theorem zpa {c:Bool} {p q A B:Prop} [h:BC c p q] (k:A) (e:p:=by first|assumption|with_reducible rfl):br c A B:=bc_t e k
theorem zqa {c:Bool} {p q A B:Prop} [h:BC c p q] (k:B) (e:q:=by assumption):br c A B:=bc_f e k
end Go.Proofs.YtfkfficabeclcaaGreatDoor

namespace Go.Proofs.YtfkfficabeclcaaGreatDoor
open Go Go.RowKit Sx
def cells0:DataW Unit→List Value
 | .lit (.int k n)=>[.int k n]
 | _=>[]
def cells1:DataW Unit→List Value
 | .agg l=>l.flatMap cells0
 | x=>cells0 x
def cells2:DataW Unit→List Value
 | .agg l=>l.flatMap cells1
 | x=>cells1 x
def layB (l:List (String × DataW Unit)) (i:Nat) (cs:Array Value):Array Value:=match l[i]? with
 | some x=>(cells2 x.2).toArray
 | none=>cs
def layO (i:Nat):Obj→Obj
 | .cells c t f=>.cells (layB Rows.reportStandingsRow.laid i c) t f
 | o=>o
def layE (b:Nat):Obj→Obj
 | .cells _ t f=>.cells #[.iface 304 (.pointer (some ⟨b,0,none⟩))] t f
 | o=>o
abbrev textR:ByteArray:={ data:=#[118,97,108,117,101,32,111,117,116,32,111,102,32,114,97,110,103,101] }
abbrev textS:ByteArray:={ data:=#[105,110,118,97,108,105,100,32,115,121,110,116,97,120] }
noncomputable def lowR:Nat:=(World.holding Tryz.prog default ⟨#[],#[],[]⟩).heap.size
noncomputable def laidHeap (os:Os):Array Obj:=(((((((World.holding Tryz.prog os ⟨#[.cells #[.string textR] 306,.cells #[.string textS] 306],#[],[]⟩).heap.modify 8 (layO 0)).modify 9 (layO 1)).modify 2 (layO 2)).modify 7 (layO 3)).modify 5 (layE lowR)).modify 4 (layE (lowR+1))).modify 6 (layO 6)
noncomputable def laidWorld (os:Os):World:={ World.holding Tryz.prog os ⟨#[.cells #[.string textR] 306,.cells #[.string textS] 306],#[],[]⟩ with heap:=laidHeap os }
theorem laid_met (os:Os) (args:Array Value):laidMet Tryz.prog Rows.reportStandingsRow.laid ((laidWorld os).forCall (fun _ _=>0) ⟨#[],args,[]⟩).memory :=
 laidMet_of_run3 8 (by kernel_rfl) (by kernel_rfl) (by kernel_rfl)
theorem estar : "*" ++ "errors.errorString" = "*errors.errorString" := by decide
theorem erow (u:TypeId) (h:(Tryz.prog).typeName? 3 u=some "*errors.errorString"):u=304 :=
 typeName_ptr_named (nm := "errors.errorString") (by rw [estar];kernel_rfl) (by kernel_rfl) (by decide) u (by rw [estar];exact h)
theorem gd_of {W:World} (hL:laidMetH Tryz.prog Rows.reportStandingsRow.laid W) (hsh:W.ShapedOpen Tryz.prog):Gd W:=by
 refine ⟨?_,?_,?_,?_,?_⟩
 ·have hsome:(((begin Tryz.prog (fun _ _=>0) default).world.heap[9]?).bind Obj.row?).isSome=true:=by kernel_rfl
  obtain ⟨⟨zero,t⟩,h0⟩:=Option.isSome_iff_exists.1 hsome
  obtain ⟨cs,hh,_,_⟩:=hsh.1 9 zero t (of_decide_eq_true (by kernel_rfl)) h0
  have:9<W.heap.size:=(Array.getElem?_eq_some_iff.1 hh).1
  have e:gl=10:=by unfold gl;kernel_rfl
  omega
 ·exact Tryz.laysM145.s1_3 W hsh
 ·have h1:=hL.filter fun x=>x.1 == "internal/strconv.uint64pow10"
  have e:(Rows.reportStandingsRow.laid.filter fun x=>x.1 == "internal/strconv.uint64pow10")=[("internal/strconv.uint64pow10", Rows.laid_internal_strconv_uint64pow10)]:=by kernel_rfl
  rw [e] at h1
  have h2:laidMet Tryz.prog [("internal/strconv.uint64pow10", Lib.tabData .u64 Lib.pow10Tab)] W:=h1
  exact Lib.tabIs_of_head (g:=2) (t:=283) (e:=121) (n:=20) (by kernel_rfl) (by kernel_rfl) (by kernel_rfl) (by kernel_rfl) (by kernel_rfl) (by kernel_rfl) h2
 ·have h1:=hL.filter fun x=>x.1 == "strconv.ErrSyntax"
  have e:(Rows.reportStandingsRow.laid.filter fun x=>x.1 == "strconv.ErrSyntax")=[("strconv.ErrSyntax", Rows.laid_strconv_ErrSyntax)]:=by kernel_rfl
  rw [e] at h1
  have h2:laidMet Tryz.prog [("strconv.ErrSyntax", Rows.laid_strconv_ErrSyntax)] W:=h1
  obtain ⟨a,_,h3,_⟩:=laid_sentinel (g:=4) (ti:=142) (ts:=9) h2 (by kernel_rfl) (by kernel_rfl) Tryz.underlying142 erow Tryz.underlying304 Tryz.underlying306 rfl rfl Tryz.underlying9 (by kernel_rfl) (by kernel_rfl)
  exact ⟨_,_,h3⟩
 ·have h1:=hL.filter fun x=>x.1 == "strconv.ErrRange"
  have e:(Rows.reportStandingsRow.laid.filter fun x=>x.1 == "strconv.ErrRange")=[("strconv.ErrRange", Rows.laid_strconv_ErrRange)]:=by kernel_rfl
  rw [e] at h1
  have h2:laidMet Tryz.prog [("strconv.ErrRange", Rows.laid_strconv_ErrRange)] W:=h1
  obtain ⟨a,_,h3,_⟩:=laid_sentinel (g:=5) (ti:=142) (ts:=9) h2 (by kernel_rfl) (by kernel_rfl) Tryz.underlying142 erow Tryz.underlying304 Tryz.underlying306 rfl rfl Tryz.underlying9 (by kernel_rfl) (by kernel_rfl)
  exact ⟨_,_,h3⟩
end Go.Proofs.YtfkfficabeclcaaGreatDoor

namespace Go.Proofs
open Go.Shelf
def Tryz.sortPt_ren:Go.Shelf.Ren:=⟨fun|6=>47|15=>91|14=>90|28=>153|29=>154|20=>145|21=>146|22=>147|23=>148|24=>149|25=>150|26=>151|27=>152|46=>196|47=>197|48=>198|49=>199|50=>200|57=>236|n=>n,fun|22=>37|24=>43|25=>98|3=>3|39=>152|0=>0|53=>212|55=>121|4=>4|46=>206|45=>205|50=>181|5=>5|9=>9|66=>254|70=>136|76=>290|77=>291|n=>n,fun|n=>n⟩
theorem Tryz.sortPt:Go.Proofs.SlLaysF0.n6 Tryz.prog Tryz.sortPt_ren:={
 mixed:=by kernel_rfl
 f6:=⟨Tryz.f47.name,by decide,Tryz.func47.trans (congrArg some (by kernel_rfl))⟩
 f14:=⟨Tryz.f90.name,by decide,Tryz.func90.trans (congrArg some (by kernel_rfl))⟩
 f15:=Tryz.func91.trans (congrArg some (by kernel_rfl))
 f20:=⟨Tryz.f145.name,by decide,Tryz.func145.trans (congrArg some (by kernel_rfl))⟩
 f21:=⟨Tryz.f146.name,by decide,Tryz.func146.trans (congrArg some (by kernel_rfl))⟩
 f22:=⟨Tryz.f147.name,by decide,Tryz.func147.trans (congrArg some (by kernel_rfl))⟩
 f23:=⟨Tryz.f148.name,by decide,Tryz.func148.trans (congrArg some (by kernel_rfl))⟩
 f24:=⟨Tryz.f149.name,by decide,Tryz.func149.trans (congrArg some (by kernel_rfl))⟩
 f25:=⟨Tryz.f150.name,by decide,Tryz.func150.trans (congrArg some (by kernel_rfl))⟩
 f26:=⟨Tryz.f151.name,by decide,Tryz.func151.trans (congrArg some (by kernel_rfl))⟩
 f27:=⟨Tryz.f152.name,by decide,Tryz.func152.trans (congrArg some (by kernel_rfl))⟩
 f28:=Tryz.func153.trans (congrArg some (by kernel_rfl))
 f29:=Tryz.func154.trans (congrArg some (by kernel_rfl))
 f46:=⟨Tryz.f196.name,by decide,Tryz.func196.trans (congrArg some (by kernel_rfl))⟩
 f47:=Tryz.func197.trans (congrArg some (by kernel_rfl))
 f48:=Tryz.func198.trans (congrArg some (by kernel_rfl))
 f49:=⟨Tryz.f199.name,by decide,Tryz.func199.trans (congrArg some (by kernel_rfl))⟩
 f50:=⟨Tryz.f200.name,by decide,Tryz.func200.trans (congrArg some (by kernel_rfl))⟩
 f57:=⟨Tryz.f236.name,by decide,Tryz.func236.trans (congrArg some (by kernel_rfl))⟩
 t0:=Tryz.underlying0
 a0:=Tryz.isAgg0
 z0:=Tryz.sizeOf0
 v0:=Tryz.zeroValue0
 t3:=Tryz.underlying3
 a3:=Tryz.isAgg3
 z3:=Tryz.sizeOf3
 v3:=Tryz.zeroValue3
 t4:=Tryz.underlying4
 a4:=Tryz.isAgg4
 z4:=Tryz.sizeOf4
 v4:=Tryz.zeroValue4
 t5:=Tryz.underlying5
 a5:=Tryz.isAgg5
 z5:=Tryz.sizeOf5
 v5:=Tryz.zeroValue5
 t9:=Tryz.underlying9
 a9:=Tryz.isAgg9
 z9:=Tryz.sizeOf9
 v9:=Tryz.zeroValue9
 t22:=Tryz.underlying37
 a22:=Tryz.isAgg37
 z22:=Tryz.sizeOf37
 v22:=Tryz.zeroValue37
 t25:=Tryz.underlying98
 a25:=Tryz.isAgg98
 z25:=Tryz.sizeOf98
 v25:=Tryz.zeroValue98
 t39:=Tryz.underlying152
 a39:=Tryz.isAgg152
 z39:=Tryz.sizeOf152
 v39:=Tryz.zeroValue152
 t45:=Tryz.underlying205
 a45:=Tryz.isAgg205
 z45:=Tryz.sizeOf205
 v45:=Tryz.zeroValue205
 t46:=Tryz.underlying206
 a46:=Tryz.isAgg206
 z46:=Tryz.sizeOf206
 v46:=Tryz.zeroValue206
 t50:=Tryz.underlying181
 a50:=Tryz.isAgg181
 z50:=Tryz.sizeOf181
 v50:=Tryz.zeroValue181
 t53:=Tryz.underlying212
 a53:=Tryz.isAgg212
 z53:=Tryz.sizeOf212
 v53:=Tryz.zeroValue212
 t55:=Tryz.underlying121
 a55:=Tryz.isAgg121
 z55:=Tryz.sizeOf121
 v55:=Tryz.zeroValue121
 t66:=Tryz.underlying254
 a66:=Tryz.isAgg254
 z66:=Tryz.sizeOf254
 v66:=Tryz.zeroValue254
 t70:=Tryz.underlying136
 a70:=Tryz.isAgg136
 z70:=Tryz.sizeOf136
 v70:=Tryz.zeroValue136
 t76:=Tryz.underlying290
 a76:=Tryz.isAgg290
 z76:=Tryz.sizeOf290
 v76:=Tryz.zeroValue290
 t77:=Tryz.underlying291
 a77:=Tryz.isAgg291
 z77:=Tryz.sizeOf291
 v77:=Tryz.zeroValue291 }
def Tryz.sortMt_ren:Go.Shelf.Ren:=⟨fun|6=>204|15=>91|14=>239|28=>153|29=>154|20=>249|21=>250|22=>251|23=>252|24=>253|25=>254|26=>255|27=>256|46=>258|47=>197|48=>198|49=>259|50=>260|57=>261|n=>n,fun|22=>26|24=>31|25=>133|3=>3|39=>152|0=>0|53=>212|55=>121|4=>4|46=>206|45=>205|50=>181|5=>5|9=>9|66=>254|70=>136|76=>290|77=>291|n=>n,fun|n=>n⟩
theorem Tryz.sortMt:Go.Proofs.SlLaysF0.n6 Tryz.prog Tryz.sortMt_ren:={
 mixed:=by kernel_rfl
 f6:=⟨Tryz.f204.name,by decide,Tryz.func204.trans (congrArg some (by kernel_rfl))⟩
 f14:=⟨Tryz.f239.name,by decide,Tryz.func239.trans (congrArg some (by kernel_rfl))⟩
 f15:=Tryz.func91.trans (congrArg some (by kernel_rfl))
 f20:=⟨Tryz.f249.name,by decide,Tryz.func249.trans (congrArg some (by kernel_rfl))⟩
 f21:=⟨Tryz.f250.name,by decide,Tryz.func250.trans (congrArg some (by kernel_rfl))⟩
 f22:=⟨Tryz.f251.name,by decide,Tryz.func251.trans (congrArg some (by kernel_rfl))⟩
 f23:=⟨Tryz.f252.name,by decide,Tryz.func252.trans (congrArg some (by kernel_rfl))⟩
 f24:=⟨Tryz.f253.name,by decide,Tryz.func253.trans (congrArg some (by kernel_rfl))⟩
 f25:=⟨Tryz.f254.name,by decide,Tryz.func254.trans (congrArg some (by kernel_rfl))⟩
 f26:=⟨Tryz.f255.name,by decide,Tryz.func255.trans (congrArg some (by kernel_rfl))⟩
 f27:=⟨Tryz.f256.name,by decide,Tryz.func256.trans (congrArg some (by kernel_rfl))⟩
 f28:=Tryz.func153.trans (congrArg some (by kernel_rfl))
 f29:=Tryz.func154.trans (congrArg some (by kernel_rfl))
 f46:=⟨Tryz.f258.name,by decide,Tryz.func258.trans (congrArg some (by kernel_rfl))⟩
 f47:=Tryz.func197.trans (congrArg some (by kernel_rfl))
 f48:=Tryz.func198.trans (congrArg some (by kernel_rfl))
 f49:=⟨Tryz.f259.name,by decide,Tryz.func259.trans (congrArg some (by kernel_rfl))⟩
 f50:=⟨Tryz.f260.name,by decide,Tryz.func260.trans (congrArg some (by kernel_rfl))⟩
 f57:=⟨Tryz.f261.name,by decide,Tryz.func261.trans (congrArg some (by kernel_rfl))⟩
 t0:=Tryz.underlying0
 a0:=Tryz.isAgg0
 z0:=Tryz.sizeOf0
 v0:=Tryz.zeroValue0
 t3:=Tryz.underlying3
 a3:=Tryz.isAgg3
 z3:=Tryz.sizeOf3
 v3:=Tryz.zeroValue3
 t4:=Tryz.underlying4
 a4:=Tryz.isAgg4
 z4:=Tryz.sizeOf4
 v4:=Tryz.zeroValue4
 t5:=Tryz.underlying5
 a5:=Tryz.isAgg5
 z5:=Tryz.sizeOf5
 v5:=Tryz.zeroValue5
 t9:=Tryz.underlying9
 a9:=Tryz.isAgg9
 z9:=Tryz.sizeOf9
 v9:=Tryz.zeroValue9
 t22:=Tryz.underlying26
 a22:=Tryz.isAgg26
 z22:=Tryz.sizeOf26
 v22:=Tryz.zeroValue26
 t25:=Tryz.underlying133
 a25:=Tryz.isAgg133
 z25:=Tryz.sizeOf133
 v25:=Tryz.zeroValue133
 t39:=Tryz.underlying152
 a39:=Tryz.isAgg152
 z39:=Tryz.sizeOf152
 v39:=Tryz.zeroValue152
 t45:=Tryz.underlying205
 a45:=Tryz.isAgg205
 z45:=Tryz.sizeOf205
 v45:=Tryz.zeroValue205
 t46:=Tryz.underlying206
 a46:=Tryz.isAgg206
 z46:=Tryz.sizeOf206
 v46:=Tryz.zeroValue206
 t50:=Tryz.underlying181
 a50:=Tryz.isAgg181
 z50:=Tryz.sizeOf181
 v50:=Tryz.zeroValue181
 t53:=Tryz.underlying212
 a53:=Tryz.isAgg212
 z53:=Tryz.sizeOf212
 v53:=Tryz.zeroValue212
 t55:=Tryz.underlying121
 a55:=Tryz.isAgg121
 z55:=Tryz.sizeOf121
 v55:=Tryz.zeroValue121
 t66:=Tryz.underlying254
 a66:=Tryz.isAgg254
 z66:=Tryz.sizeOf254
 v66:=Tryz.zeroValue254
 t70:=Tryz.underlying136
 a70:=Tryz.isAgg136
 z70:=Tryz.sizeOf136
 v70:=Tryz.zeroValue136
 t76:=Tryz.underlying290
 a76:=Tryz.isAgg290
 z76:=Tryz.sizeOf290
 v76:=Tryz.zeroValue290
 t77:=Tryz.underlying291
 a77:=Tryz.isAgg291
 z77:=Tryz.sizeOf291
 v77:=Tryz.zeroValue291 }
end Go.Proofs

namespace Go.Proofs.YtfkfficabeclcaaGreatDoor
open Go Go.Shelf Go.RowKit Go.Lib Go.Sort Sx
namespace Sx
theorem flat_get2 {k:Nat} (hk0:0<k):∀ {l:List (List Value)} {t:Nat},(∀ x∈l,x.length=k)→t<l.length*k→l.flatten[t]? = (l[t / k]?).bind (fun x=>x[t % k]?)
 | [],t,_,h=>by simp at h
 | x::l,t,hk,h=>by
  have hx:=hk x (List.mem_cons_self ..)
  rw [List.flatten_cons]
  rcases Nat.lt_or_ge t k with h1|h1
  ·rw [List.getElem?_append_left (by omega),Nat.div_eq_of_lt h1,Nat.mod_eq_of_lt h1];rfl
  ·obtain ⟨u,rfl⟩:∃ u,t=u+k:=⟨t-k,by omega⟩
   rw [List.getElem?_append_right (by omega),hx,Nat.add_sub_cancel,flat_get2 hk0 (fun y hy=>hk y (List.mem_cons_of_mem _ hy)) (by simp only [List.length_cons,Nat.add_mul,Nat.one_mul] at h;omega),Nat.add_div_right _ hk0,Nat.add_mod_right]
   rfl
theorem flat_len2 {k:Nat}:∀ {l:List (List Value)},(∀ x∈l,x.length=k)→l.flatten.length=l.length*k
 | [],_=>by simp
 | x::l,hk=>by
  rw [List.flatten_cons,List.length_append,hk x (List.mem_cons_self ..),flat_len2 fun y hy=>hk y (List.mem_cons_of_mem _ hy),List.length_cons,Nat.add_mul,Nat.one_mul]
  omega
theorem flatK_toList {α:Type} [Inhabited α] {enc:α→List Value} {k:Nat} (hk0:0<k) (hk:∀ x,(enc x).length=k) (d:List α):(flatK enc k d.toArray).toList=(d.map enc).flatten:=by
 have hm:∀ x∈d.map enc,x.length=k:=fun x hx=>by obtain ⟨y,_,rfl⟩:=List.mem_map.1 hx;exact hk y
 have hl:=flat_len2 hm
 rw [List.length_map] at hl
 refine List.ext_getElem? fun t => ?_
 rcases Nat.lt_or_ge t (d.length*k) with h|h
 ·have h2:=get_flatK enc k d.toArray t (by simpa using h)
  have hd:t / k<d.length:=Nat.div_lt_of_lt_mul (by rw [Nat.mul_comm];exact h)
  have hsz:t<(flatK enc k d.toArray).size:=by simpa using h
  rw [getElem!_pos (flatK enc k d.toArray) t hsz] at h2
  rw [flat_get2 hk0 hm (by simpa using h),List.getElem?_map,List.getElem?_eq_getElem hd,Array.getElem?_toList,Array.getElem?_eq_getElem hsz,h2]
  have e1:d.toArray[t / k]! = d[t / k]:=by rw [getElem!_pos d.toArray (t / k) (by simpa using hd)];simp
  rw [e1]
  have h3:t % k<(enc d[t / k]).length:=by rw [hk];exact Nat.mod_lt _ hk0
  rw [getElem!_pos (enc d[t / k]) (t % k) h3]
  simp [List.getElem?_eq_getElem h3]
 ·rw [List.getElem?_eq_none (by simpa using h),List.getElem?_eq_none (by omega)]
theorem heap_sort {α:Type} [Inhabited α] {enc:α→List Value} {k n b:Nat} {dk:Array α} {os:Array Obj} {w:World} {c:Array Value} {T:TypeId} (hb:w.heap[b]? = some (.cells c T (0,0))) :
  (sortWorldK enc k w b 0 n dk os).heap[b]? = some (.cells (putCells id 0 (flatK enc k dk) c) T (0,0)):=by
 have hlt:b<w.heap.size:=(Array.getElem?_eq_some_iff.1 hb).1
 unfold sortWorldK grow putRowK putRow mapBlock
 simp only
 rw [Array.getElem?_append_left (by simpa [Sort.ahead] using hlt)]
 simp [Sort.ahead,Array.getElem?_modify,hb,onCells]
theorem heap_sort_other {α:Type} [Inhabited α] {enc:α→List Value} {k n b i:Nat} {dk:Array α} {os:Array Obj} {w:World} (hi:i<w.heap.size) (hne:i≠b):(sortWorldK enc k w b 0 n dk os).heap[i]? = w.heap[i]? := by
 unfold sortWorldK grow putRowK putRow mapBlock
 simp only
 rw [Array.getElem?_append_left (by simpa [Sort.ahead] using hi)]
 simp [Sort.ahead,Array.getElem?_modify,Ne.symm hne]
theorem size_sort {α:Type} [Inhabited α] {enc:α→List Value} {k n b:Nat} {dk:Array α} {os:Array Obj} {w:World}:w.heap.size≤(sortWorldK enc k w b 0 n dk os).heap.size:=by
 unfold sortWorldK grow putRowK putRow mapBlock
 simp [Sort.ahead]
theorem put_flat {F:Array Value} {c:List Value} (h:F.size≤c.length):(putCells id 0 F c.toArray).toList=F.toList++c.drop F.size:=by
 refine List.ext_getElem? fun t => ?_
 rw [Array.getElem?_toList]
 unfold putCells
 rw [Array.getElem?_mapIdx]
 rcases Nat.lt_or_ge t F.size with h1|h1
 ·rw [List.getElem?_append_left (by simpa using h1)]
  have:t<c.length:=by omega
  simp [h1,this]
 ·rw [List.getElem?_append_right (by simpa using h1)]
  simp only [List.getElem?_drop,Array.length_toList]
  rw [show F.size+(t-F.size)=t by omega]
  simp
  have:¬ t<F.size:=by omega
  simp [this]
theorem dsR_flat {w:World} {M:Nat→Prop}:∀ {xs vs:List Value},DsR w M (xs.map .v) vs→vs=xs
 | [],[],_=>rfl
 | x::xs,v::vs,h=>by
  have h1:Rep w M (.v x) v:=h.1
  cases h1
  rw [dsR_flat h.2]
 | [],_::_,h=>h.elim
 | _::_,[],h=>h.elim
theorem dsR_of_flat {w:World} {M:Nat→Prop}:∀ {xs:List Value},(∀ v∈xs,v.oneCell'=true∧wfV v)→DsR w M (xs.map .v) xs
 | [],_=>trivial
 | x::xs,h=>⟨.v x (h x (List.mem_cons_self ..)).1 (h x (List.mem_cons_self ..)).2,dsR_of_flat fun v hv=>h v (List.mem_cons_of_mem _ hv)⟩
theorem flatL_v:∀ (xs:List Value),flatL (xs.map .v)=true
 | []=>rfl
 | x::xs=>flatL_v xs
theorem flatten_v {α:Type} {enc:α→List Value} (d:List α):(d.map fun x=>(enc x).map D.v).flatten=((d.map enc).flatten).map D.v:=by
 induction d with
 | nil=>rfl
 | cons x d ih=>rw [List.map_cons,List.flatten_cons,ih,List.map_cons,List.flatten_cons,List.map_append]
theorem sort_mu {P:Program} {ρ:Ren} {α:Type} [Inhabited α] (L:SlLaysF0.n6 P ρ) {k:Nat} (hk0:0<k) (aE:∀ w,(isAgg (ρ.t 24)).run P w=.ok true w) (zE:∀ w,(Go.sizeOf (ρ.t 24)).run P w=.ok k w)
  (enc:α→List Value) (hk:∀ x,(enc x).length=k) (h1:∀ x,∀ v∈enc x,v.oneCell'=true∧wfV v) (cf:α→α→Int) (hO:SWO (ltOf cf)) (hT:∀ x y,ltOf cf x y=false→ltOf cf y x=false→x=y) {g:Nat} {caps:List (List D)}
  (eg:∀ args w,(callFunc g args).run P w=.ok (.enter g args) w) (es:∀ args w,(callFunc (ρ.f 6) args).run P w=.ok (.enter (ρ.f 6) args) w)
  (hcmp:∀ x y,FnD P g ([.agg ((enc x).map .v),.agg ((enc y).map .v)]++refsC caps) (.c (.one (.v (.int .i64 (cf x y)))))) (d:List α) (hsz:d.length<4611686018427387904) :
  FnMu P (ρ.f 6) k (d.map fun x=>(enc x).map .v) [.one (.clo g caps)] ((d.mergeSort fun x y => !(ltOf cf) y x).map fun x=>(enc x).map .v):=by
 refine ⟨fun e he => ?_,fun w M v vs m hM hm hvs hB hv => ?_⟩
 ·obtain ⟨x,_,rfl⟩:=List.mem_map.1 he
  exact flatL_v _
 match vs,hvs with
 | [u],⟨hu,_⟩ =>
  obtain ⟨ps,rfl,hps⟩:=crefs_rel (show Rep w M (.clo g caps) u from hu)
  obtain ⟨x,rfl,hx⟩:=hv
  obtain ⟨⟨k1,k2,k3,k4,k5⟩,hreal⟩:=hB
  refine ⟨ρ.f 6,es _ _,?_⟩
  rw [List.length_map] at k2
  cases d with
  | nil =>
   have k2:0=m.len:=k2
   rw [← k2]
   refine (AnyF.slices_SortFunc_none L x m.cap _ w).mono ?_
   rintro e w' ⟨rfl,rfl⟩
   exact ⟨rfl,.refl _ _ _,⟨by simp,by simpa using k2,fun _=>by simp,rfl,k5⟩,by simpa using hreal⟩
  | cons y ys =>
   have hc0:0<m.cap:=by
    rcases Nat.eq_zero_or_pos m.cap with h|h
    ·have:=k3 h;simp at this
    ·exact h
   rw [hx hc0,← k2]
   obtain ⟨cs,⟨T,hcs⟩,c1,c2,c3,vals,rest,c4,c5⟩:=hreal (by simpa [Blk.real] using hc0)
   rw [flatten_v] at c5
   have hvals:=dsR_flat c5
   generalize hd:y::ys=d at *
   have hm':∀ x∈d.map enc,x.length=k:=fun x hx=>by obtain ⟨y,_,rfl⟩:=List.mem_map.1 hx;exact hk y
   have hfl:(d.map enc).flatten.length=d.length*k:=by rw [flat_len2 hm',List.length_map]
   have hbl:m.b<w.heap.size:=hM _ (hm hc0)
   have hH:HoldsK enc k w m.b 0 d.toArray:=by
    intro j hj
    have hj':j<d.length*k:=by simpa using hj
    rw [Nat.zero_add]
    refine ⟨?_,frozen_of_row w m.b j cs.toArray T hcs⟩
    rw [cell_of ⟨T,hcs⟩,c4,List.getElem?_append_left (by rw [hvals,hfl];exact hj'),hvals,← flatK_toList hk0 hk,Array.getElem?_toList,getElem!_pos (flatK enc k d.toArray) j hj,Array.getElem?_eq_getElem hj]
    rfl
   have hHold:∀ n (dk:Array α) os,Sx.Holds M w (sortWorldK enc k w m.b 0 n dk os):=fun n dk os =>
    ⟨size_sort,fun b hb hMb _=>heap_sort_other hb fun e=>hMb (by rw [e];exact hm hc0)⟩
   have hC:CmpLays P g ps.toArray enc k cf m.b 0 d.toArray.size w:=by
    intro n os dk hdk a b
    have hargs:DCsR (sortWorldK enc k w m.b 0 n dk os) M ([.agg ((enc a).map .v),.agg ((enc b).map .v)]++refsC caps) ([.agg (enc a).toArray,.agg (enc b).toArray]++ps) :=
     ⟨⟨_,rfl,dsR_of_flat (h1 a)⟩,⟨_,rfl,dsR_of_flat (h1 b)⟩,hps.mono (hHold n dk os) (fun _ _ h=>h)⟩
    rcases hcmp a b _ M _ ⟨fun b hb=>Nat.lt_of_lt_of_le (hM b hb) size_sort,gd_keep size_sort (fun b hb=>heap_sort_other (Nat.lt_of_lt_of_le hb (gd_size hM.gd)) fun e=>by have:=hM.ge _ (hm hc0);omega) hM.gd,hM.ge⟩ hargs with ⟨g',hg,hc⟩|⟨_,hg,_⟩
    ·rw [eg] at hg
     injection hg with h2
     injection h2 with h2
     subst h2
     have e:(#[Value.agg (enc a).toArray,.agg (enc b).toArray]++ps.toArray:Array Value)=([Value.agg (enc a).toArray,Value.agg (enc b).toArray]++ps).toArray:=by simp
     rw [e]
     refine hc.mono ?_
     rintro e w' ⟨u,rfl,hu,hb,hdr⟩
     have hu:Rep w' M (.v (.int .i64 (cf a b))) u:=hu
     cases hu
     obtain ⟨q,hq⟩:=regrown_of_below hb
     have hqd:w'.drawn=q.d:=by rw [hq];rfl
     refine ⟨rfl,q.d-(sortWorldK enc k w m.b 0 n dk os).drawn,q.os,?_⟩
     rw [hq]
     unfold redrawn World.drewN
     rw [show (sortWorldK enc k w m.b 0 n dk os).drawn+(q.d-(sortWorldK enc k w m.b 0 n dk os).drawn)=q.d by omega]
    ·rw [eg] at hg
     injection hg with h2
     cases h2
   have hlaw:=AnyQ.slices_SortFunc_total L k aE zE enc hk (fun x v hv=>(h1 x v hv).1) cf hO g ps.toArray m.b 0 m.cap d.toArray w eg hC hH hbl (by simpa using hsz) hT
   have e0:d.toArray.size=d.length:=by simp
   rw [e0] at hlaw
   refine hlaw.mono ?_
   rintro e w' ⟨rfl,n,os,rfl⟩
   generalize hs:(d.mergeSort fun x y => !(ltOf cf) y x)=s at *
   have hsl:s.length=d.length:=by rw [← hs];exact List.length_mergeSort _
   have hms:∀ x∈s.map enc,x.length=k:=fun x hx=>by obtain ⟨y,_,rfl⟩:=List.mem_map.1 hx;exact hk y
   have hsfl:(s.map enc).flatten.length=d.length*k:=by rw [flat_len2 hms,List.length_map,hsl]
   refine ⟨rfl,⟨rfl,rfl,rfl,size_sort,fun b hb hne=>heap_sort_other hb fun e=>hne ⟨hc0,e⟩,.inr ?_⟩,⟨fun x hx => ?_,by rw [List.length_map,hsl,k2],fun h=>by omega,rfl,k5⟩,fun _ => ?_⟩
   ·show w.drawn≤w.drawn+n
    omega
   ·obtain ⟨y,_,rfl⟩:=List.mem_map.1 hx
    rw [List.length_map];exact hk y
   ·have hsize:(flatK enc k s.toArray).size=d.length*k:=by simp [hsl]
    have hle:(flatK enc k s.toArray).size≤cs.length:=by rw [hsize,c3];exact Nat.mul_le_mul_right _ (by simpa using c1)
    refine ⟨(flatK enc k s.toArray).toList++cs.drop (flatK enc k s.toArray).size,⟨T,?_⟩,by rw [List.length_map,hsl];simpa using c1,c2,?_,(flatK enc k s.toArray).toList,cs.drop (flatK enc k s.toArray).size,rfl,?_⟩
    ·rw [heap_sort hcs,← put_flat hle]
    ·rw [List.length_append,Array.length_toList,List.length_drop]
     omega
    ·rw [flatten_v,flatK_toList hk0 hk]
     exact dsR_of_flat fun v hv=>by
      obtain ⟨x,hx,hvx⟩:=List.mem_flatten.1 hv
      obtain ⟨z,_,rfl⟩:=List.mem_map.1 hx
      exact h1 z v hvx
end Sx
end Go.Proofs.YtfkfficabeclcaaGreatDoor

namespace Go.Proofs.YtfkfficabeclcaaGreatDoor
open Go Go.RowKit Go.Sort Sx
def fx (n m:Int) (p:Pt):Int:=p.a*m+p.b*n
def ldr (n m:Int) (p q:Pt):Prop:=fx n m q<fx n m p∨fx n m p=fx n m q∧(q.b<p.b∨p.b=q.b∧p.id<q.id)
instance (n m:Int) (p q:Pt):Decidable (ldr n m p q):=by unfold ldr;infer_instance
def srt (n m:Int) (l:List Pt):List Pt:=l.mergeSort fun x y => !decide (ldr n m y x)
theorem leadN_ldr (n m:Int) (p q:Pt):leadN p.id p.b q.id q.b ((p.a-q.a)*m+(p.b-q.b)*n) > 0↔ldr n m p q:=by
 have e:(p.a-q.a)*m+(p.b-q.b)*n=fx n m p-fx n m q:=by unfold fx;simp only [Int.sub_mul];omega
 rw [e]
 unfold ldr leadN cmpN
 generalize fx n m p=x
 generalize fx n m q=y
 (repeat' split)<;>omega
def cfP (n m:Int) (p q:Pt):Int:=if p.id=q.id then 0 else if ldr n m p q then -1 else 1
theorem two02_ne {n m:Int} {p q:Pt} (hp:p.chk=0) (hq:q.chk=0) (ht:chk n m=0) (hne:p.id≠q.id):two02 p.id p.a p.b q.id q.a q.b n m=0:=by
 unfold two02
 rw [if_pos ⟨hp,hq,ht⟩,if_neg hne]
theorem fsorted1_fnd {n m:Int} {p q:Pt} (hp:p.chk=0) (hq:q.chk=0) (ht:chk n m=0):FnD Tryz.prog 122 [p.dc,q.dc,.one (.ref [i64 n,i64 m])] (ret1 (cfP n m p q)):=by
 have hcap:([[i64 n,i64 m]]:List (List D))[0]? = some [i64 n,i64 m]:=rfl
 unfold cfP
 by_cases h:p.id=q.id
 ·rw [if_pos h]
  refine fn_okD (by kernel_rfl) ty_okD rfl Tryz.func122 rfl (fun _ _=>Tryz.call122 _ _) rfl ?_
  intro hw
  clear hw
  repeat' ((conv=>whnf);first|(with_reducible first|refine br_t ?_|refine br_f ?_|refine zd ?_|refine za ?_|refine zg ?_)|refine zp ?_|refine zq ?_|(with_reducible first|refine bc (fun h => ?_) (fun h => ?_)|refine zt ?_|refine zf ?_|refine br_i (fun h => ?_) (fun h => ?_))|refine zg ?_|refine zi ?_|refine zb ?_)
  all_goals conv=>whnf
  all_goals rfl
 ·rw [if_neg h]
  have H:=kAhead_fnd p.id p.a p.b q.id q.a q.b n m
  unfold aheadV at H
  rw [if_pos (two02_ne hp hq ht h)] at H
  simp only [retBI] at H
  by_cases hl:ldr n m p q
  ·rw [if_pos hl]
   rw [decide_eq_true ((leadN_ldr n m p q).2 hl)] at H
   refine fn_okD (by kernel_rfl) ty_okD rfl Tryz.func122 rfl (fun _ _=>Tryz.call122 _ _) rfl ?_
   intro hw
   clear hw
   repeat' ((conv=>whnf);first|(with_reducible first|refine br_t ?_|refine br_f ?_|refine zd ?_|refine za ?_|refine zg ?_)|refine zp ?_|refine zq ?_|(with_reducible first|refine bc (fun h => ?_) (fun h => ?_)|refine zt ?_|refine zf ?_|refine br_i (fun h => ?_) (fun h => ?_))|refine zg ?_|refine zi ?_|refine zb ?_)
   all_goals conv=>whnf
   all_goals rfl
  ·rw [if_neg hl]
   rw [decide_eq_false (fun h=>hl ((leadN_ldr n m p q).1 h))] at H
   refine fn_okD (by kernel_rfl) ty_okD rfl Tryz.func122 rfl (fun _ _=>Tryz.call122 _ _) rfl ?_
   intro hw
   clear hw
   repeat' ((conv=>whnf);first|(with_reducible first|refine br_t ?_|refine br_f ?_|refine zd ?_|refine za ?_|refine zg ?_)|refine zp ?_|refine zq ?_|(with_reducible first|refine bc (fun h => ?_) (fun h => ?_)|refine zt ?_|refine zf ?_|refine br_i (fun h => ?_) (fun h => ?_))|refine zg ?_|refine zi ?_|refine zb ?_)
   all_goals conv=>whnf
   all_goals rfl
def apart (l:List Pt):Prop:=∀ p∈l,∀ q∈l,p.id=q.id→p=q
theorem incr_apart {l:List Pt} (h:incr l=true):apart l:=by
 intro p hp q hq e
 obtain ⟨i,hi,rfl⟩:=List.getElem_of_mem hp
 obtain ⟨j,hj,rfl⟩:=List.getElem_of_mem hq
 rcases Nat.lt_trichotomy i j with h1|h1|h1
 ·have:=incr_lt h j i hj h1;omega
 ·exact getElem_congr rfl h1 _
 ·have:=incr_lt h i j hi h1;omega
theorem lt_cfP {n m:Int} {l:List Pt} (ha:apart l) {p q:Pt} (hp:p∈l) (hq:q∈l):ltOf (cfP n m) p q=decide (ldr n m p q):=by
 unfold ltOf cfP
 by_cases h:p.id=q.id
 ·have:=ha p hp q hq h
  subst this
  rw [if_pos rfl]
  have:¬ ldr n m p p:=by unfold ldr;omega
  simp [this]
 ·rw [if_neg h]
  by_cases hl:ldr n m p q<;>simp [hl]
theorem sortPt_mu {n m:Int} {l:List Pt} (hl:∀ p∈l,p.chk=0) (ha:apart l) (ht:chk n m=0) (hsz:l.length≤1000000):FnMu Tryz.prog 47 3 (l.map Pt.c) [.one (.clo 122 [[i64 n,i64 m]])] ((srt n m l).map Pt.c):=by
 cases l with
 | nil =>
  have:=sort_mu (P:=Tryz.prog) (ρ:=Tryz.sortPt_ren) (α:=Unit) (k:=3) Tryz.sortPt (by decide) Tryz.isAgg43 Tryz.sizeOf43 (fun _=>[.int .i64 0,.int .i64 0,.int .i64 0]) (fun _=>rfl) (fun _ v hv=>by simp at hv;subst hv;exact ⟨rfl,WD_v.1 (wd_i64.2 (by omega))⟩) (fun _ _=>0)
   ⟨fun _=>rfl,fun _ _ _ h=>by simp [ltOf] at h,fun _ _ _ _ _=>rfl⟩ (fun _ _ _ _=>rfl) (g:=122) (caps:=[[i64 n,i64 m]]) (fun _ _=>Tryz.call122 _ _) (fun _ _=>Tryz.call47 _ _)
   (fun _ _=>by
    have:=fsorted1_fnd (n:=n) (m:=m) (p:=⟨0,0,0⟩) (q:=⟨0,0,0⟩) rfl rfl ht
    unfold cfP at this
    rw [if_pos rfl] at this
    exact this) [] (by decide)
  simp only [List.map_nil,List.mergeSort_nil] at this
  rw [show srt n m []=[] by simp [srt]]
  exact this
 | cons y ys =>
  generalize hd:y::ys=l at *
  have:Inhabited {p:Pt // p∈l}:=⟨⟨y,by rw [← hd];exact List.mem_cons_self ..⟩⟩
  have key:=sort_mu (P:=Tryz.prog) (ρ:=Tryz.sortPt_ren) (α:={p:Pt // p∈l}) (k:=3) Tryz.sortPt (by decide) Tryz.isAgg43 Tryz.sizeOf43 (fun p=>[.int .i64 p.1.id,.int .i64 p.1.a,.int .i64 p.1.b]) (fun _=>rfl) (fun p v hv=>by
    have hc:=cpt_ok (hl p.1 p.2)
    simp at hv
    rcases hv with rfl|rfl|rfl
    all_goals exact ⟨rfl,WD_v.1 (wd_i64.2 (by omega))⟩) (fun p q=>cfP n m p.1 q.1)
   ⟨fun p => ?_,fun p q r h1 h2 => ?_,fun p q r h1 h2 => ?_⟩ (fun p q h1 h2 => ?_) (g:=122) (caps:=[[i64 n,i64 m]]) (fun _ _=>Tryz.call122 _ _) (fun _ _=>Tryz.call47 _ _)
   (fun p q=>fsorted1_fnd (hl p.1 p.2) (hl q.1 q.2) ht) l.attach (by simp;omega)
  ·have e1:(l.attach.map fun p=>([.int .i64 p.1.id,.int .i64 p.1.a,.int .i64 p.1.b]:List Value).map D.v)=l.map Pt.c:=by
    rw [show (fun p:{p:Pt // p∈l}=>([.int .i64 p.1.id,.int .i64 p.1.a,.int .i64 p.1.b]:List Value).map D.v)=Pt.c ∘ Subtype.val from rfl,← List.map_map,List.attach_map_subtype_val]
   have e2:((l.attach.mergeSort fun x y => !(ltOf fun p q:{p:Pt // p∈l}=>cfP n m p.1 q.1) y x).map fun p=>([.int .i64 p.1.id,.int .i64 p.1.a,.int .i64 p.1.b]:List Value).map D.v)=(srt n m l).map Pt.c:=by
    rw [show (fun p:{p:Pt // p∈l}=>([.int .i64 p.1.id,.int .i64 p.1.a,.int .i64 p.1.b]:List Value).map D.v)=Pt.c ∘ Subtype.val from rfl,← List.map_map]
    rw [List.map_mergeSort (s:=fun x y => !decide (ldr n m y x)) (fun a _ b _=>by
     have:=lt_cfP (n:=n) (m:=m) ha b.2 a.2
     unfold ltOf at this ⊢
     rw [this]),List.attach_map_subtype_val]
    rfl
   rw [e1,e2] at key
   exact key
  ·exact (lt_cfP ha p.2 p.2).trans (decide_eq_false (by unfold ldr;omega))
  ·have k1:=of_decide_eq_true ((lt_cfP ha p.2 q.2).symm.trans h1)
   have k2:=of_decide_eq_true ((lt_cfP ha q.2 r.2).symm.trans h2)
   exact (lt_cfP ha p.2 r.2).trans (decide_eq_true (by unfold ldr at *;omega))
  ·have k1:=of_decide_eq_false ((lt_cfP ha p.2 q.2).symm.trans h1)
   have k2:=of_decide_eq_false ((lt_cfP ha q.2 r.2).symm.trans h2)
   exact (lt_cfP ha p.2 r.2).trans (decide_eq_false (by unfold ldr at *;omega))
  ·have k1:=of_decide_eq_false ((lt_cfP ha p.2 q.2).symm.trans h1)
   have k2:=of_decide_eq_false ((lt_cfP ha q.2 p.2).symm.trans h2)
   exact Subtype.ext (ha _ p.2 _ q.2 (by unfold ldr at *;omega))
end Go.Proofs.YtfkfficabeclcaaGreatDoor

namespace Go.Proofs.YtfkfficabeclcaaGreatDoor
open Go Go.RowKit Go.Sort Sx
def tchk (l:List Pt) (n m:Int):Int:=if fchk l=0 then chk n m else fchk l
abbrev retL (l:List Pt) (e:Int):DV:=.tup [.one (pts l),.one (i64 e)]
theorem fsorted_fn (l:List Pt) (n m:Int):FnOK Tryz.prog 69 [fld l,rat n m] (if tchk l n m=0 then retL (srt n m l) 0 else retL [] (tchk l n m)):=by
 have H1:=fCheck_fn l
 have H2:=check_fn n m
 unfold tchk
 by_cases h1:fchk l=0
 ·obtain ⟨k1,k2,k3⟩:=fchk_ok h1
  simp only [if_pos h1]
  rw [h1] at H1
  by_cases h2:chk n m=0
  ·rw [if_pos h2]
   rw [h2] at H2
   have H3:=clonePt_own (l.map Pt.c) (by simp;omega)
   have H4:=sortPt_mu (n:=n) (m:=m) k2 (incr_apart k3) h2 (by omega)
   refine fn_ok (by kernel_rfl) (ty_okK [21] [47] [] []) Tryz.func69 rfl (fun _ _=>Tryz.call69 _ _) rfl ?_
   intro hw
   clear hw
   exact zw
  ·rw [if_neg h2]
   have h8:chk n m=8:=(chk_08 n m).resolve_left h2
   rw [h8] at H2 ⊢
   refine fn_ok (by kernel_rfl) ty_ok Tryz.func69 rfl (fun _ _=>Tryz.call69 _ _) rfl ?_
   intro hw
   clear hw
   exact zw
 ·simp only [if_neg h1]
  generalize fchk l=z at *
  refine fn_ok (by kernel_rfl) ty_ok Tryz.func69 rfl (fun _ _=>Tryz.call69 _ _) rfl ?_
  intro hw
  clear hw
  exact zw
def leadV (l:List Pt) (n m:Int):Int × Int:=if tchk l n m=0 then (if l.length=0 then (0,42) else (((srt n m l)[0]?.getD default).id,0)) else (0,tchk l n m)
theorem fLeader_fn (l:List Pt) (n m:Int):FnOK Tryz.prog 105 [fld l,rat n m] (ret2 (leadV l n m)):=by
 refine fn_ok (by kernel_rfl) ty_ok Tryz.func105 rfl (fun _ _=>Tryz.call105 _ _) rfl ?_
 intro hw
 clear hw
 have H:=fsorted_fn l n m
 unfold leadV
 by_cases h:tchk l n m=0
 ·rw [if_pos h] at H ⊢
  have hl:(srt n m l).length=l.length:=List.length_mergeSort _
  by_cases h0:l.length=0
  ·rw [if_pos h0]
   repeat' ((conv=>whnf);first|(with_reducible first|refine br_t ?_|refine br_f ?_|refine za ?_|refine zg ?_)|rw [List.length_map]|refine zp ?_|refine zq ?_|(with_reducible first|refine bc (fun h => ?_) (fun h => ?_)|refine zt ?_|refine zf ?_|refine br_i (fun h => ?_) (fun h => ?_))|refine zg ?_|refine zi ?_|refine zb ?_)
   all_goals conv=>whnf
   all_goals rfl
  ·rw [if_neg h0]
   have hlt:0<(srt n m l).length:=by omega
   have hel:=pts_get hlt
   rw [List.getElem?_eq_getElem hlt]
   repeat' ((conv=>whnf);first|(with_reducible first|refine br_t ?_|refine br_f ?_|refine za ?_|refine zg ?_)|rw [List.length_map]|refine zp ?_|refine zq ?_|(with_reducible first|refine bc (fun h => ?_) (fun h => ?_)|refine zt ?_|refine zf ?_|refine br_i (fun h => ?_) (fun h => ?_))|refine zg ?_|refine zi ?_|refine zb ?_)
   all_goals conv=>whnf
   all_goals rfl
 ·rw [if_neg h] at H ⊢
  generalize tchk l n m=z at *
  exact zw
end Go.Proofs.YtfkfficabeclcaaGreatDoor

namespace Go.Proofs.YtfkfficabeclcaaGreatDoor
open Go Go.RowKit Go.Sort Sx
theorem srt_perm (n m:Int) (l:List Pt):(srt n m l).Perm l:=List.mergeSort_perm l _
theorem srt_len (n m:Int) (l:List Pt):(srt n m l).length=l.length:=List.length_mergeSort _
theorem srt_sorted (n m:Int) (l:List Pt):(srt n m l).Pairwise fun x y=>¬ ldr n m y x:=by
 have h:=List.pairwise_mergeSort (le:=fun x y => !decide (ldr n m y x)) (fun a b c h1 h2=>by
  simp at *
  unfold ldr at *
  omega) (fun a b=>by
  simp only [Bool.or_eq_true,Bool.not_eq_true',decide_eq_false_iff_not]
  unfold ldr
  omega) l
 exact h.imp fun h=>by simpa using h
abbrev ints (l:List Int):D:=.list 1 (l.map fun i=>[i64 i])
def ordV (l:List Pt) (n m:Int):List Int:=(srt n m l).map Pt.id
end Go.Proofs.YtfkfficabeclcaaGreatDoor

namespace Go.Proofs.YtfkfficabeclcaaGreatDoor
open Go Go.RowKit Go.Sort Sx
theorem tchk_ok {l:List Pt} {n m:Int} (h:tchk l n m=0):fchk l=0∧chk n m=0:=by
 unfold tchk at h
 split at h
 ·exact ⟨by assumption,h⟩
 ·omega
theorem ints_get {l:List Int} {i:Nat} (h:i<l.length):(l.map fun i=>[i64 i])[((i:Nat):Int).toNat]? = some [i64 l[i]]:=by
 rw [Int.toNat_natCast,List.getElem?_map,List.getElem?_eq_getElem h];rfl
def orderV (l:List Pt) (n m:Int):List Int × Int:=if tchk l n m=0 then (ordV l n m,0) else ([],tchk l n m)
abbrev retO (x:List Int × Int):DV:=.tup [.one (ints x.1),.one (i64 x.2)]
def outI (s:List Pt) (i:Nat):List (List D):=(s.take i).map (fun p=>[i64 p.id])++List.replicate (s.length-i) [i64 0]
theorem outI_get {s:List Pt} {i:Nat} (h:i<s.length):(outI s i)[((i:Nat):Int).toNat]? = some [i64 0]:=by
 rw [Int.toNat_natCast,outI,List.getElem?_append_right (by simp;omega),List.getElem?_replicate,if_pos (by simp;omega)]
theorem outI_set {s:List Pt} {i:Nat} (h:i<s.length):(outI s i).set ((i:Nat):Int).toNat [i64 s[i].id]=outI s (i+1):=by
 rw [Int.toNat_natCast]
 unfold outI
 have hk:s.length-i=(s.length-(i+1))+1:=by omega
 rw [List.take_succ_eq_append_getElem h,hk,List.replicate_succ,List.set_append_right _ _ (by simp;omega)]
 have h0:i-((s.take i).map fun p:Pt=>[i64 p.id]).length=0:=by simp;omega
 rw [h0,List.map_append,List.append_assoc]
 rfl
theorem outI_len {s:List Pt} {i:Nat} (h:i≤s.length):(outI s i).length=s.length:=by simp [outI];omega
theorem fOrder_fn (l:List Pt) (n m:Int):FnOK Tryz.prog 33 [fld l,rat n m] (retO (orderV l n m)):=by
 refine fn_ok (by kernel_rfl) (ty_okK [22] [] [] []) Tryz.func33 rfl (fun _ _=>Tryz.call33 _ _) rfl ?_
 intro hw
 clear hw
 have H:=fsorted_fn l n m
 unfold orderV
 by_cases h:tchk l n m=0
 ·rw [if_pos h] at H ⊢
  obtain ⟨k1,k2,k3⟩:=fchk_ok (tchk_ok h).1
  have hl:(srt n m l).length=l.length:=srt_len n m l
  have e:(ordV l n m).map (fun i=>[i64 i])=outI (srt n m l) (srt n m l).length:=by simp [outI,ordV]
  generalize srt n m l=s at *
  repeat' ((conv=>whnf);first|(with_reducible first|refine br_t ?_|refine br_f ?_|refine za ?_|refine zg ?_|refine zo ?_)|rw [List.length_map]|refine zp ?_|refine zq ?_|(with_reducible first|refine bc (fun h => ?_) (fun h => ?_)|refine zt ?_|refine zf ?_|refine br_i (fun h => ?_) (fun h => ?_))|refine zg ?_|refine zi ?_|refine zb ?_|refine zl ?_)
  refine loop_J (by kernel_rfl) (ty_okK [22] [] [] []) (σ:=Nat) (fun i=>[(25,sV (.int .i64 i))]) (fun i=>[(22,.row 1 (outI s i) 0)]) (fun i=>i≤s.length) (fun i=>s.length-i) 0 (Nat.zero_le _) ?_ ?_
  ·(conv=>whnf);exact zent
  intro i hi
  have hol:=outI_len hi
  rcases Nat.lt_or_ge i s.length with hlt|hge
  ·have hel:=pts_get hlt
   have hel2:=outI_get hlt
   repeat' ((conv=>whnf);first|(with_reducible first|refine br_t ?_|refine br_f ?_|refine za ?_|refine zg ?_|refine zo ?_)|rw [List.length_map]|refine zp ?_|refine zq ?_|(with_reducible first|refine bc (fun h => ?_) (fun h => ?_)|refine zt ?_|refine zf ?_|refine br_i (fun h => ?_) (fun h => ?_))|refine zg ?_|refine zi ?_|refine zb ?_|refine zl ?_)
   all_goals conv=>whnf
   refine ⟨i+1,by omega,?_,by omega⟩
   (conv=>whnf);refine ⟨by repeat' (first|with_reducible exact zE0|with_reducible refine zE1 ?_ ?_|rfl|assumption|(exact congrArg (fun x=>some (Blk.row 1 x 0)) (outI_set hlt))|exact zi1|exact zb1),by repeat' (first|with_reducible exact zH0|with_reducible refine zH1 ?_ ?_|rfl|assumption|(exact congrArg (fun x=>some (Blk.row 1 x 0)) (outI_set hlt))),rfl⟩
  ·obtain rfl:i=s.length:=by omega
   repeat' ((conv=>whnf);first|(with_reducible first|refine br_t ?_|refine br_f ?_|refine za ?_|refine zg ?_|refine zo ?_)|rw [List.length_map]|refine zp ?_|refine zq ?_|(with_reducible first|refine bc (fun h => ?_) (fun h => ?_)|refine zt ?_|refine zf ?_|refine br_i (fun h => ?_) (fun h => ?_))|refine zg ?_|refine zi ?_|refine zb ?_|refine zl ?_)
   all_goals conv=>whnf
   all_goals exact congrArg (fun x=>DV.tup [.one (.list 1 x),.one (i64 0)]) e.symm
 ·rw [if_neg h] at H ⊢
  generalize tchk l n m=z at *
  exact zw
def findV (l:List Pt) (id:Int):Pt × Int:=if fchk l=0 then (if has l id then (l[pos l id]?.getD default,0) else (⟨0,0,0⟩,6)) else (⟨0,0,0⟩,fchk l)
abbrev retPt (x:Pt × Int):DV:=.tup [x.1.dc,.one (i64 x.2)]
theorem fFind_fn (l:List Pt) (id:Int):FnOK Tryz.prog 34 [fld l,.one (i64 id)] (retPt (findV l id)):=by
 refine fn_ok (by kernel_rfl) ty_ok Tryz.func34 rfl (fun _ _=>Tryz.call34 _ _) rfl ?_
 intro hw
 clear hw
 have H:=fplace_fn l id
 unfold findV
 unfold placeV at H
 by_cases h0:fchk l=0
 ·obtain ⟨k1,k2,k3⟩:=fchk_ok h0
  rw [if_pos h0] at H ⊢
  cases hh:has l id
  ·rw [hh,if_neg (by decide)] at H
   repeat' ((conv=>whnf);first|(with_reducible first|refine br_t ?_|refine br_f ?_|refine za ?_|refine zg ?_)|rw [List.length_map]|refine zp ?_|refine zq ?_|(with_reducible first|refine bc (fun h => ?_) (fun h => ?_)|refine zt ?_|refine zf ?_|refine br_i (fun h => ?_) (fun h => ?_))|refine zg ?_|refine zi ?_|refine zb ?_)
   all_goals conv=>whnf
   all_goals rfl
  ·rw [hh,if_pos rfl] at H
   obtain ⟨hlt,_⟩:=(has_pos k3).1 hh
   have hel:=pts_get hlt
   rw [if_pos rfl,List.getElem?_eq_getElem hlt]
   repeat' ((conv=>whnf);first|(with_reducible first|refine br_t ?_|refine br_f ?_|refine za ?_|refine zg ?_)|rw [List.length_map]|refine zp ?_|refine zq ?_|(with_reducible first|refine bc (fun h => ?_) (fun h => ?_)|refine zt ?_|refine zf ?_|refine br_i (fun h => ?_) (fun h => ?_))|refine zg ?_|refine zi ?_|refine zb ?_)
   all_goals conv=>whnf
   all_goals rfl
 ·rw [if_neg h0] at H ⊢
  generalize fchk l=z at *
  exact zw
end Go.Proofs.YtfkfficabeclcaaGreatDoor
