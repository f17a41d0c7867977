import Derived.Test.YtfkfficabeclcaaGreatDoorGLTNamesAO
import Derived.Test.YtfkfficabeclcaaGreatDoorGLTNamesAJ
import Derived.Test.YtfkfficabeclcaaGreatDoorGLTNamesAN
import Derived.Laws.Strings
import Derived.Laws.Concat
import Derived.Lib.Strings
import Derived.Test.YtfkfficabeclcaaGreatDoorRows
import Derived.Test.YtfkfficabeclcaaGreatDoorTie
import Derived.Test.YtfkfficabeclcaaGreatDoorCards
import Derived.Test.YtfkfficabeclcaaGreatDoorGLTNamesAK
import Derived.Test.YtfkfficabeclcaaGreatDoorGLTNamesAL
import Derived.Deep.DeepHandedRow
import Derived.Deep.DeepLaidRun
import Derived.LaidSub
import Derived.SevenTiedAt
import Derived.Stop.LaidErr
import Derived.Lib.ItoaLen
import Derived.Lib.Atoi
import Derived.ScopeJumps
import Derived.WalkMore
import Derived.Lib.Split
import Derived.Lib.Join
import Derived.Lib.CutLaws
set_option linter.all false
namespace Go.Proofs.YtfkfficabeclcaaGreatDoor
open Go.RowKit Go.Sort Sx
abbrev retIB (i:Int) (b:Bool):DV:=.tup [.one (i64 i),.one (bol b)]
theorem fchk_ok {l:List Pt} (h:fchk l=0):l.length≤64∧(∀ p∈l,p.chk=0)∧incr l=true:=by
 unfold fchk at h
 split at h
 ·omega
 ·split at h
  ·rename_i h1 h2
   split at h
   ·rename_i h3
    exact ⟨by omega,fun p hp=>by simpa using List.all_eq_true.1 h2 p hp,h3⟩
   ·omega
  ·omega
theorem ffind_fn (l:List Pt) (id:Int) (hs:incr l=true) (hl:l.length≤1000000):FnOK Tryz.prog 124 [fld l,.one (i64 id)] (retIB (pos l id:Nat) (has l id)):=by
 refine fn_ok (by kernel_rfl) ty_ok Tryz.func124 rfl (fun _ _=>Tryz.call124 _ _) rfl ?_
 intro hw
 have HC:=bsPt_fn l id hs hl
 exact zw
def placeV (l:List Pt) (id:Int):Int × Int:=if fchk l=0 then (if has l id then ((pos l id:Nat),0) else (0,6)) else (0,fchk l)
theorem fplace_fn (l:List Pt) (id:Int):FnOK Tryz.prog 70 [fld l,.one (i64 id)] (ret2 (placeV l id)):=by
 refine fn_ok (by kernel_rfl) ty_ok Tryz.func70 rfl (fun _ _=>Tryz.call70 _ _) rfl ?_
 intro hw
 have H1:=fCheck_fn l
 unfold placeV
 by_cases h0:fchk l=0
 ·obtain ⟨k1,k2,k3⟩:=fchk_ok h0
  have H2:=ffind_fn l id k3 (by omega)
  rw [h0] at H1
  rw [if_pos h0]
  cases hh:has l id<;>rw [hh] at H2
  all_goals
   exact zw
 ·rw [if_neg h0]
  exact zw
def great (l:List Pt):Bool:=decide (16<l.length∧l.length<64∨70<l.length)
end Go.Proofs.YtfkfficabeclcaaGreatDoor

namespace Go.Proofs.YtfkfficabeclcaaGreatDoor
open Go.RowKit Go.Sort Sx
theorem Pt.eq_iff {p q:Pt}:p=q↔p.id=q.id∧p.a=q.a∧p.b=q.b:=by
 cases p;cases q;simp
theorem take_all_eq {α:Type} {a b:List α} {i:Nat} (h:a.take i=b.take i) (hl:a.length=b.length) (hi:a.length≤i):a=b:=by
 rw [List.take_of_length_le hi,List.take_of_length_le (by omega)] at h;exact h
theorem take_succ_eq {α:Type} {a b:List α} {i:Nat} (h:a.take i=b.take i) (h1:i<a.length) (h2:i<b.length) (e:a[i]=b[i]):a.take (i+1)=b.take (i+1):=by
 rw [List.take_succ_eq_append_getElem h1,List.take_succ_eq_append_getElem h2,h,e]
theorem ne_of_get {α:Type} {a b:List α} {i:Nat} (h1:i<a.length) (h2:i<b.length) (e:a[i]≠b[i]):a≠b:=by
 rintro rfl;exact e rfl
structure Md where
 n:Int
 d:Int
 l:List Pt
 deriving DecidableEq,Inhabited
def Md.c (m:Md):List D:=[i64 m.n,i64 m.d,pts m.l]
abbrev Md.dc (m:Md):DC:=.agg [i64 m.n,i64 m.d,pts m.l]
def mchk (m:Md):Int:=if askd m.n m.d=0∧fchk m.l=0 then 0 else 8
theorem mchk_08 (m:Md):mchk m=0∨mchk m=8:=by unfold mchk;split<;>simp
theorem mchk_ok {m:Md} (h:mchk m=0):askd m.n m.d=0∧fchk m.l=0:=by
 unfold mchk at h
 split at h
 ·assumption
 ·omega
theorem mchk_orN (m:Md):mchk m=if orN (askd m.n m.d) (fchk m.l)=0 then 0 else 8:=by
 unfold mchk orN
 by_cases h:askd m.n m.d=0<;>simp [h]
theorem rfSame_fn (a b:List Pt):FnOK Tryz.prog 54 [fld a,fld b] (.c (.one (bol (decide (a=b))))):=by
 refine fn_ok (by kernel_rfl) ty_ok Tryz.func54 rfl (fun _ _=>Tryz.call54 _ _) rfl ?_
 intro hw
 simp only [WDCs,WDC,WDs] at hw
 obtain ⟨w1,_⟩:=wd_pts hw.1.1
 obtain ⟨w2,_⟩:=wd_pts hw.2.1.1
 clear hw
 by_cases h0:a.length=b.length
 ·repeat' ((conv=>whnf);first|(with_reducible first|refine br_t ?_|refine br_f ?_|refine za ?_|refine zg ?_)|rw [List.length_map]|refine zp ?_|refine zq ?_|(with_reducible first|refine bc (fun h => ?_) (fun h => ?_)|refine zt ?_|refine zf ?_|refine br_i (fun h => ?_) (fun h => ?_)|refine xi (pv_bool fun _=>nev43 _ _ _ _ _ _ _ _ _) ?_)|refine zg ?_|refine zi ?_|refine zb ?_)
  refine loop_J (by kernel_rfl) ty_ok (σ:=Nat) (fun i=>[(5,sV (.int .i64 i))]) (fun _=>[]) (fun i=>i≤a.length∧a.take i=b.take i) (fun i=>a.length-i) 0 ⟨by omega,rfl⟩ ?_ ?_
  ·(conv=>whnf);exact zent
  rintro i ⟨hi,hI⟩
  rcases Nat.lt_or_ge i a.length with hlt|hge
  ·have hb:i<b.length:=by omega
   have he1:=pts_get hlt
   have he2:=pts_get hb
   by_cases hc:a[i]=b[i]
   ·have hq:=Pt.eq_iff.1 hc
    repeat' ((conv=>whnf);first|(with_reducible first|refine br_t ?_|refine br_f ?_|refine za ?_|refine zg ?_)|rw [List.length_map]|refine zp ?_|refine zq ?_|(with_reducible first|refine bc (fun h => ?_) (fun h => ?_)|refine zt ?_|refine zf ?_|refine br_i (fun h => ?_) (fun h => ?_)|refine xi (pv_bool fun _=>nev43 _ _ _ _ _ _ _ _ _) ?_)|refine zg ?_|refine zi ?_|refine zb ?_)
    all_goals conv=>whnf
    refine ⟨i+1,⟨by omega,take_succ_eq hI hlt hb hc⟩,?_,by omega⟩
    (conv=>whnf);exact zent
   ·have hq:=mt Pt.eq_iff.2 hc
    rw [decide_eq_false (ne_of_get hlt hb hc)]
    repeat' ((conv=>whnf);first|(with_reducible first|refine br_t ?_|refine br_f ?_|refine za ?_|refine zg ?_)|rw [List.length_map]|refine zp ?_|refine zq ?_|(with_reducible first|refine bc (fun h => ?_) (fun h => ?_)|refine zt ?_|refine zf ?_|refine br_i (fun h => ?_) (fun h => ?_)|refine xi (pv_bool fun _=>nev43 _ _ _ _ _ _ _ _ _) ?_)|refine zg ?_|refine zi ?_|refine zb ?_)
    all_goals conv=>whnf
    all_goals rfl
  ·rw [decide_eq_true (take_all_eq hI h0 hge)]
   repeat' ((conv=>whnf);first|(with_reducible first|refine br_t ?_|refine br_f ?_|refine za ?_|refine zg ?_)|rw [List.length_map]|refine zp ?_|refine zq ?_|(with_reducible first|refine bc (fun h => ?_) (fun h => ?_)|refine zt ?_|refine zf ?_|refine br_i (fun h => ?_) (fun h => ?_)|refine xi (pv_bool fun _=>nev43 _ _ _ _ _ _ _ _ _) ?_)|refine zg ?_|refine zi ?_|refine zb ?_)
   all_goals conv=>whnf
   all_goals rfl
 ·rw [decide_eq_false (fun h=>h0 (congrArg List.length h))]
  repeat' ((conv=>whnf);first|(with_reducible first|refine br_t ?_|refine br_f ?_|refine za ?_|refine zg ?_)|rw [List.length_map]|refine zp ?_|refine zq ?_|(with_reducible first|refine bc (fun h => ?_) (fun h => ?_)|refine zt ?_|refine zf ?_|refine br_i (fun h => ?_) (fun h => ?_)|refine xi (pv_bool fun _=>nev43 _ _ _ _ _ _ _ _ _) ?_)|refine zg ?_|refine zi ?_|refine zb ?_)
  all_goals conv=>whnf
  all_goals rfl
theorem ofirst_fn (a b:Int):FnOK Tryz.prog 66 [.one (.list 1 [[i64 a],[i64 b]])] (ret1 (orN a b)):=by
 refine fn_ok (by kernel_rfl) ty_ok Tryz.func66 rfl (fun _ _=>Tryz.call66 _ _) rfl ?_
 intro hw
 repeat' ((conv=>whnf);first|(with_reducible first|refine br_t ?_|refine br_f ?_|refine za ?_|refine zg ?_)|refine zp ?_|refine zq ?_|(with_reducible first|refine bc (fun h => ?_) (fun h => ?_)|refine zt ?_|refine zf ?_|refine br_i (fun h => ?_) (fun h => ?_))|refine zg ?_|refine zi ?_|refine zb ?_)
 refine loop_J (by kernel_rfl) ty_ok (σ:=Nat) (fun i=>[(7,sV (.int .i64 i))]) (fun _=>[]) (fun i=>i=0∨(i=1∧a=0)∨(i=2∧a=0∧b=0)) (fun i=>2-i) 0 (.inl rfl) ?_ ?_
 ·(conv=>whnf);exact zent
 intro i hi
 have hlen:([[i64 a],[i64 b]]:List (List D)).length=2:=rfl
 have hel0:([[i64 a],[i64 b]]:List (List D))[((0:Nat):Int).toNat]? = some [i64 a]:=rfl
 have hel1:([[i64 a],[i64 b]]:List (List D))[((1:Nat):Int).toNat]? = some [i64 b]:=rfl
 have q0:0≤((0:Nat):Int)∧((0:Nat):Int)<(([[i64 a],[i64 b]]:List (List D)).length:Int):=⟨by omega,by simp⟩
 have q1:0≤((1:Nat):Int)∧((1:Nat):Int)<(([[i64 a],[i64 b]]:List (List D)).length:Int):=⟨by omega,by simp⟩
 rcases hi with rfl|⟨rfl,h1⟩|⟨rfl,h1,h2⟩
 ·repeat' ((conv=>whnf);first|(with_reducible first|refine br_t ?_|refine br_f ?_|refine za ?_|refine zg ?_)|first|(refine (Exists.intro _ (And.intro (And.intro hel0 (Nat.le_of_ble_eq_true rfl)) ?_)))|(refine And.intro q0 ?_)|refine zp ?_|refine zq ?_|(with_reducible first|refine bc (fun h => ?_) (fun h => ?_)|refine zt ?_|refine zf ?_|refine br_i (fun h => ?_) (fun h => ?_))|refine zg ?_|refine zi ?_|refine zb ?_)
  all_goals conv=>whnf
  ·refine r_int ?_
   unfold orN;rw [if_neg (by assumption)]
  ·refine ⟨1,.inr (.inl ⟨rfl,by omega⟩),?_,by show 2-1<2-0;decide⟩
   (conv=>whnf);exact zent
 ·repeat' ((conv=>whnf);first|(with_reducible first|refine br_t ?_|refine br_f ?_|refine za ?_|refine zg ?_)|first|(refine (Exists.intro _ (And.intro (And.intro hel1 (Nat.le_of_ble_eq_true rfl)) ?_)))|(refine And.intro q1 ?_)|refine zp ?_|refine zq ?_|(with_reducible first|refine bc (fun h => ?_) (fun h => ?_)|refine zt ?_|refine zf ?_|refine br_i (fun h => ?_) (fun h => ?_))|refine zg ?_|refine zi ?_|refine zb ?_)
  all_goals conv=>whnf
  ·refine r_int ?_
   unfold orN;rw [if_pos h1]
  ·refine ⟨2,.inr (.inr ⟨rfl,h1,by omega⟩),?_,by show 2-2<2-1;decide⟩
   (conv=>whnf);exact zent
 ·repeat' ((conv=>whnf);first|(with_reducible first|refine br_t ?_|refine br_f ?_|refine za ?_|refine zg ?_)|refine zp ?_|refine zq ?_|(with_reducible first|refine bc (fun h => ?_) (fun h => ?_)|refine zt ?_|refine zf ?_|refine br_i (fun h => ?_) (fun h => ?_))|refine zg ?_|refine zi ?_|refine zb ?_)
  all_goals conv=>whnf
  refine r_int ?_
  unfold orN;rw [if_pos h1];exact h2.symm
theorem oCheck_fn (m:Md):FnOK Tryz.prog 31 [m.dc] (ret1 (mchk m)):=by
 refine fn_ok (by kernel_rfl) ty_ok Tryz.func31 rfl (fun _ _=>Tryz.call31 _ _) rfl ?_
 intro hw
 clear hw
 rw [mchk_orN]
 have H:=ofirst_fn (askd m.n m.d) (fchk m.l)
 generalize orN (askd m.n m.d) (fchk m.l)=z at *
 by_cases h:z=0
 all_goals
  repeat' ((conv=>whnf);first|(with_reducible first|refine br_t ?_|refine br_f ?_|refine za ?_|refine zg ?_|refine xi (asked_fn _ _) ?_|refine xi (fCheck_fn _) ?_)|refine zp ?_|refine zq ?_|(with_reducible first|refine bc (fun h => ?_) (fun h => ?_)|refine zt ?_|refine zf ?_|refine br_i (fun h => ?_) (fun h => ?_))|refine zg ?_|refine zi ?_|refine zb ?_)
  all_goals conv=>whnf
  all_goals simp [h]
theorem roSameModel_fn (m n:Md):FnOK Tryz.prog 20 [m.dc,n.dc] (.c (.one (bol (decide (m=n))))):=by
 refine fn_ok (by kernel_rfl) ty_ok Tryz.func20 rfl (fun _ _=>Tryz.call20 _ _) rfl ?_
 intro hw
 clear hw
 have H:=rfSame_fn m.l n.l
 have he:(m=n)↔(m.n=n.n∧m.d=n.d)∧m.l=n.l:=by cases m;cases n;simp [and_assoc]
 rw [show decide (m=n)=decide ((m.n=n.n∧m.d=n.d)∧m.l=n.l) from decide_eq_decide.2 he]
 by_cases h:m.n=n.n∧m.d=n.d
 all_goals
  cases hz:decide (m.l=n.l)
  all_goals
   rw [hz] at H
   repeat' ((conv=>whnf);first|(with_reducible first|refine br_t ?_|refine br_f ?_|refine za ?_|refine zg ?_)|refine zp ?_|refine zq ?_|(with_reducible first|refine bc (fun h => ?_) (fun h => ?_)|refine zt ?_|refine zf ?_|refine br_i (fun h => ?_) (fun h => ?_)|refine xi (pv_bool fun _=>eqv25 _ _ _ _ _ _ _) ?_)|refine zg ?_|refine zi ?_|refine zb ?_)
   all_goals conv=>whnf
   all_goals simp at hz
   all_goals simp [h,hz]
end Go.Proofs.YtfkfficabeclcaaGreatDoor

namespace Go.Proofs.YtfkfficabeclcaaGreatDoor
open Go Go.RowKit Sx
namespace Sx
end Sx
end Go.Proofs.YtfkfficabeclcaaGreatDoor

namespace Go.Proofs.YtfkfficabeclcaaGreatDoor
open Go Go.RowKit Go.Sort Sx
abbrev u8 (n:Int):D:=.v (.int .u8 n)
structure Ak where
 k:Int
 p:Pt
 id:Int
 n:Int
 d:Int
 deriving DecidableEq,Inhabited
def Ak.c (a:Ak):List D:=[u8 a.k,i64 a.p.id,i64 a.p.a,i64 a.p.b,i64 a.id,i64 a.n,i64 a.d]
abbrev Ak.dc (a:Ak):DC:=.agg [u8 a.k,i64 a.p.id,i64 a.p.a,i64 a.p.b,i64 a.id,i64 a.n,i64 a.d]
def formV (a:Ak):Bool :=
 decide ((a.k=1∨a.k=3)∧a.id=0∧a.n=0∧a.d=0∨a.k=2∧a.p.id=0∧a.p.a=0∧a.p.b=0∧a.n=0∧a.d=0∨a.k=4∧a.p.id=0∧a.p.a=0∧a.p.b=0∧a.id=0 ∨
  (a.k=5∨a.k=6)∧a.p.id=0∧a.p.a=0∧a.p.b=0∧a.id=0∧a.n=0∧a.d=0)
end Go.Proofs.YtfkfficabeclcaaGreatDoor

namespace Go.Proofs.YtfkfficabeclcaaGreatDoor
open Go Go.RowKit
namespace Sx
variable {P:Program} {sz:Nat} {E:Env} {H:Hp}
def kpE (ks:List Nat):List Nat→Env→Env
 | _,[]=>[]
 | D,(t,x)::r=>match memB t D with
  | true=>kpE ks D r
  | false=>match memB t ks with|true=>(t,x)::kpE ks (t::D) r|false=>kpE ks (t::D) r
theorem look_kpE {ks:List Nat}:∀ {E:Env} {D:List Nat} {t:Nat} {x:SV},look (kpE ks D E) t=some x→t ∉ D∧look E t=some x
 | [],D,t,x,h=>by simp [kpE,look] at h
 | (u,y)::r,D,t,x,h=>by
  unfold kpE at h
  rw [look_cons]
  split at h
  ·rename_i hm
   obtain ⟨h1,h2⟩:=look_kpE h
   exact ⟨h1,by rw [if_neg (by rintro rfl;exact h1 (memB_iff.1 hm))];exact h2⟩
  ·rename_i hm
   have hm':u ∉ D:=fun h'=>by rw [memB_iff.2 h'] at hm;cases hm
   split at h
   ·rw [look_cons] at h
    split at h
    ·rename_i e
     injection h with h
     subst e h
     exact ⟨hm',by rw [if_pos rfl]⟩
    ·obtain ⟨h1,h2⟩:=look_kpE h
     refine ⟨fun h'=>h1 (List.mem_cons_of_mem _ h'),?_⟩
     rename_i e
     rw [if_neg e];exact h2
   ·obtain ⟨h1,h2⟩:=look_kpE h
    exact ⟨fun h'=>h1 (List.mem_cons_of_mem _ h'),by rw [if_neg (by rintro rfl;exact h1 (List.mem_cons_self ..))];exact h2⟩
theorem loop_keep (ks:List Nat) {dm:Bool} {body:Code} {k:Exit→Env→Hp→Prop} (h:frcEnv (kpE ks [] E) fun E1=>LoopP P sz dm body E1 H k):LoopP P sz dm body E H k :=
 ⟨fun C M0 w0 ρ a w Q hdm R hQ=>((frcEnv_iff _ _).1 h).run C M0 w0 ρ a w Q hdm (R.same (fun t x hx=>(look_kpE hx).2) fun _=>rfl) hQ⟩
end Sx
end Go.Proofs.YtfkfficabeclcaaGreatDoor

namespace Go.Proofs.YtfkfficabeclcaaGreatDoor
open Go Go.RowKit Go.Sort Sx
abbrev bstr (l:List UInt8):Value:=.string ⟨l.toArray⟩
abbrev str (l:List UInt8):Sx.D:=.v (.string ⟨l.toArray⟩)
theorem str_toList (a:List UInt8):(⟨a.toArray⟩:ByteArray).toList=a:=by rw [Lib.toList_data]
theorem str_size (a:List UInt8):(⟨a.toArray⟩:ByteArray).size=a.length:=rfl
theorem str_append (a b:List UInt8):(⟨a.toArray⟩:ByteArray)++⟨b.toArray⟩=⟨(a++b).toArray⟩:=by
 apply ByteArray.ext
 simp
theorem str_extract (a:List UInt8) (i j:Nat):(⟨a.toArray⟩:ByteArray).extract i j=⟨((a.take j).drop i).toArray⟩:=by
 apply ByteArray.ext
 rw [ByteArray.data_extract]
 apply Array.ext'
 simp [List.extract_eq_take_drop,List.drop_take]
theorem str_get (a:List UInt8) (i:Nat):(⟨a.toArray⟩:ByteArray)[i]? = a[i]? := by
 by_cases h:i<a.length
 ·have h':i<(⟨a.toArray⟩:ByteArray).size:=h
  rw [List.getElem?_eq_getElem h,getElem?_pos (⟨a.toArray⟩:ByteArray) i h'];rfl
 ·have h':¬ i<(⟨a.toArray⟩:ByteArray).size:=h
  rw [List.getElem?_eq_none (by omega),getElem?_neg (⟨a.toArray⟩:ByteArray) i h']
theorem run_cat {P:Program} {t:Nat} {x y:Operand} {a b:List UInt8} (h:a.length+b.length≤9223372036854775807) (w:World):(do eqGuard .add t x y (bstr a) (bstr b);binOp .add t (bstr a) (bstr b):Sem Value).run P w=.ok (bstr (a++b)) w:=by
 have:=run_string_add_sum (P:=P) (w:=w) (⟨a.toArray⟩:ByteArray) ⟨b.toArray⟩ h
 simp only [Sem.run_bind]
 show (binOp .add t (bstr a) (bstr b)).run P w=_
 rw [binOp_string_add,this,str_append]
theorem run_seq {P:Program} {t:Nat} {x y:Operand} {a b:List UInt8} (w:World):(do eqGuard .eql t x y (bstr a) (bstr b);binOp .eql t (bstr a) (bstr b):Sem Value).run P w=.ok (.bool (decide (a=b))) w:=by
 simp only [Sem.run_bind]
 show (binOp .eql t (bstr a) (bstr b)).run P w=_
 rw [binOp_string_eql,str_toList,str_toList]
 simp [go_sem]
 by_cases h:a=b<;>simp [h]
theorem run_sne {P:Program} {t:Nat} {x y:Operand} {a b:List UInt8} (w:World):(do eqGuard .neq t x y (bstr a) (bstr b);binOp .neq t (bstr a) (bstr b):Sem Value).run P w=.ok (.bool (decide (¬ a=b))) w:=by
 simp only [Sem.run_bind]
 show (binOp .neq t (bstr a) (bstr b)).run P w=_
 rw [binOp_string_neq,str_toList,str_toList]
 simp [go_sem]
 by_cases h:a=b<;>simp [h]
theorem cat_pv {P:Program} {t:Nat} {x y:Operand} {a b:List UInt8} (h:a.length+b.length≤9223372036854775807):(bstr (a++b)).oneCell'=true∧wfV (bstr (a++b))∧∀ w,(do eqGuard .add t x y (bstr a) (bstr b);binOp .add t (bstr a) (bstr b):Sem Value).run P w=.ok (bstr (a++b)) w:=⟨rfl,trivial,run_cat h⟩
theorem seq_pv {P:Program} {t:Nat} {x y:Operand} {a b:List UInt8}:(Value.bool (decide (a=b))).oneCell'=true∧wfV (.bool (decide (a=b)))∧∀ w,(do eqGuard .eql t x y (bstr a) (bstr b);binOp .eql t (bstr a) (bstr b):Sem Value).run P w=.ok (.bool (decide (a=b))) w:=⟨rfl,trivial,run_seq⟩
theorem sne_pv {P:Program} {t:Nat} {x y:Operand} {a b:List UInt8}:(Value.bool (decide (¬ a=b))).oneCell'=true∧wfV (.bool (decide (¬ a=b)))∧∀ w,(do eqGuard .neq t x y (bstr a) (bstr b);binOp .neq t (bstr a) (bstr b):Sem Value).run P w=.ok (.bool (decide (¬ a=b))) w:=⟨rfl,trivial,run_sne⟩
theorem po_sidx {P:Program} {o:Oper} {t:Nat} {x y:Operand} {l:List UInt8} {k:IntKind} {i:Int} (ho:o.op=.index t x y) (ht:P.underlying t=some .string) (h0:0≤i) (hi:i.toNat<l.length):PureOp P o [bstr l,.int k i] (.int .u8 (l[i.toNat].toNat:Int)):=by
 refine ⟨rfl,?_,fun f hf w => ?_⟩
 ·show inK .u8 _
  have:=l[i.toNat].toNat_lt
  simp only [inK];omega
 ·rw [ho] at hf
  simp only [Op.operands,List.map_cons,List.map_nil,List.cons.injEq,and_true] at hf
  simp [execOp,ho,hf.1,hf.2,Instr.index,asIntOf,run_underlying ht,h0,str_get,List.getElem?_eq_getElem hi]
theorem po_ssl {P:Program} {o:Oper} {t:Nat} {x y z:Operand} {l:List UInt8} {k k':IntKind} {i j:Int} (ho:o.op=.slice t x (some y) (some z) none) (ht:P.underlying t=some .string) (h0:0≤i) (h1:i≤j) (h2:j≤l.length):PureOp P o [bstr l,.int k i,.int k' j] (bstr ((l.take j.toNat).drop i.toNat)):=by
 refine ⟨rfl,trivial,fun f hf w => ?_⟩
 rw [ho] at hf
 simp [Op.operands] at hf
 have e1:((j.toNat:Nat):Int)=j:=by omega
 simp [execOp,ho,hf,Instr.sliceAt,Instr.slice,Instr.sliceBounds,Instr.sliceBound,asIntOf,run_underlying ht,str_size,h0,h1,h2,e1,str_extract,show 0≤j by omega]
theorem po_ssl1 {P:Program} {o:Oper} {t:Nat} {x y:Operand} {l:List UInt8} {k:IntKind} {i:Int} (ho:o.op=.slice t x (some y) none none) (ht:P.underlying t=some .string) (h0:0≤i) (h1:i≤l.length):PureOp P o [bstr l,.int k i] (bstr (l.drop i.toNat)):=by
 refine ⟨rfl,trivial,fun f hf w => ?_⟩
 rw [ho] at hf
 simp [Op.operands] at hf
 have e1:l.drop i.toNat=(l.take l.length).drop i.toNat:=by rw [List.take_length]
 rw [e1]
 simp [execOp,ho,hf,Instr.sliceAt,Instr.slice,Instr.sliceBounds,Instr.sliceBound,asIntOf,run_underlying ht,str_size,h0,h1,str_extract]
theorem po_slen {P:Program} {o:Oper} {t:Nat} {x:Operand} {l:List UInt8} {c:Call} (ho:o.op=.call c) (hc:c.callee=.builtin .len) (ha:c.args=#[x]) (hat:c.argTypes=#[t]) (ht:P.underlying t=some .string) (hl:l.length≤9223372036854775807):PureOp P o [bstr l] (.int .i64 (l.length:Int)):=by
 refine ⟨rfl,⟨by omega,by omega⟩,fun f hf w => ?_⟩
 rw [ho] at hf
 simp [Op.operands,Call.operands,hc,ha] at hf
 simp [execOp,ho,resolve,hc,ha,hat,invoke,builtin,hf,Builtin.len_,run_underlying ht,str_size,goInt]
theorem po_sget {P:Program} {o:Oper} {t:Nat} {x y:Operand} {l:List UInt8} {k:IntKind} {i:Int} {b:UInt8} (ho:o.op=.index t x y) (ht:P.underlying t=some .string) (h0:0≤i) (hi:l[i.toNat]? = some b):PureOp P o [bstr l,.int k i] (.int .u8 (b.toNat:Int)):=by
 obtain ⟨h,e⟩:=List.getElem?_eq_some_iff.1 hi
 have:=po_sidx (P:=P) (k:=k) ho ht h0 h
 rw [e] at this;exact this
theorem zsl {o:Oper} {x:Operand} {c:Call} {l:List UInt8} {K:Value→Prop} (k:K (.int .i64 (l.length:Int))) (h:l.length≤9223372036854775807:=by first|omega|(simp only [List.length_append,List.length_cons,List.length_nil];omega)) (ho:o.op=.call c:=by rfl) (hc:c.callee=.builtin .len:=by rfl) (ha:c.args=#[x]:=by rfl) (hat:c.argTypes=#[9]:=by rfl):∃ v,PureOp Tryz.prog o [bstr l] v∧K v:=⟨_,po_slen ho hc ha hat Tryz.underlying9 h,k⟩
theorem zsg {o:Oper} {x y:Operand} {l:List UInt8} {kk:IntKind} {i:Int} {b:UInt8} {K:Value→Prop} (k:K (.int .u8 (b.toNat:Int))) (hi:l[i.toNat]? = some b:=by assumption) (h0:0≤i:=by omega) (ho:o.op=.index 9 x y:=by rfl):∃ v,PureOp Tryz.prog o [bstr l,.int kk i] v∧K v:=⟨_,po_sget ho Tryz.underlying9 h0 hi,k⟩
theorem zss {o:Oper} {x y z:Operand} {l:List UInt8} {kk kk':IntKind} {i j:Int} {K:Value→Prop} (k:K (bstr ((l.take j.toNat).drop i.toNat))) (h0:0≤i:=by omega) (h1:i≤j:=by omega) (h2:j≤l.length:=by omega) (ho:o.op=.slice 9 x (some y) (some z) none:=by rfl):∃ v,PureOp Tryz.prog o [bstr l,.int kk i,.int kk' j] v∧K v:=⟨_,po_ssl ho Tryz.underlying9 h0 h1 h2,k⟩
theorem zs1 {o:Oper} {x y:Operand} {l:List UInt8} {kk:IntKind} {i:Int} {K:Value→Prop} (k:K (bstr (l.drop i.toNat))) (h0:0≤i:=by omega) (h1:i≤l.length:=by omega) (ho:o.op=.slice 9 x (some y) none none:=by rfl):∃ v,PureOp Tryz.prog o [bstr l,.int kk i] v∧K v:=⟨_,po_ssl1 ho Tryz.underlying9 h0 h1,k⟩
theorem zse {t:Nat} {x y:Operand} {a b:List UInt8} {K:Value→Prop} (k:K (.bool (decide (a=b)))):∃ v,(v.oneCell'=true∧wfV v∧∀ w,(do eqGuard .eql t x y (bstr a) (bstr b);binOp .eql t (bstr a) (bstr b):Sem Value).run Tryz.prog w=.ok v w)∧K v:=⟨_,seq_pv,k⟩
theorem zsn {t:Nat} {x y:Operand} {a b:List UInt8} {K:Value→Prop} (k:K (.bool (decide (¬ a=b)))):∃ v,(v.oneCell'=true∧wfV v∧∀ w,(do eqGuard .neq t x y (bstr a) (bstr b);binOp .neq t (bstr a) (bstr b):Sem Value).run Tryz.prog w=.ok v w)∧K v:=⟨_,sne_pv,k⟩
theorem zsc {t:Nat} {x y:Operand} {a b:List UInt8} {K:Value→Prop} (k:K (bstr (a++b))) (h:a.length+b.length≤9223372036854775807:=by first|omega|(simp only [List.length_append,List.length_cons,List.length_nil];omega)):∃ v,(v.oneCell'=true∧wfV v∧∀ w,(do eqGuard .add t x y (bstr a) (bstr b);binOp .add t (bstr a) (bstr b):Sem Value).run Tryz.prog w=.ok v w)∧K v:=⟨_,cat_pv h,k⟩
theorem zpa {c:Bool} {p q A B:Prop} [h:BC c p q] (k:A) (e:p:=by first|assumption|with_reducible rfl):br c A B:=bc_t e k
theorem zqa {c:Bool} {p q A B:Prop} [h:BC c p q] (k:B) (e:q:=by assumption):br c A B:=bc_f e k
end Go.Proofs.YtfkfficabeclcaaGreatDoor

namespace Go.Proofs.YtfkfficabeclcaaGreatDoor
open Go Go.RowKit Sx
def cells0:DataW Unit→List Value
 | .lit (.int k n)=>[.int k n]
 | _=>[]
def cells1:DataW Unit→List Value
 | .agg l=>l.flatMap cells0
 | x=>cells0 x
def cells2:DataW Unit→List Value
 | .agg l=>l.flatMap cells1
 | x=>cells1 x
def layB (l:List (String × DataW Unit)) (i:Nat) (cs:Array Value):Array Value:=match l[i]? with
 | some x=>(cells2 x.2).toArray
 | none=>cs
def layO (i:Nat):Obj→Obj
 | .cells c t f=>.cells (layB Rows.reportStandingsRow.laid i c) t f
 | o=>o
def layE (b:Nat):Obj→Obj
 | .cells _ t f=>.cells #[.iface 304 (.pointer (some ⟨b,0,none⟩))] t f
 | o=>o
abbrev textR:ByteArray:={ data:=#[118,97,108,117,101,32,111,117,116,32,111,102,32,114,97,110,103,101] }
abbrev textS:ByteArray:={ data:=#[105,110,118,97,108,105,100,32,115,121,110,116,97,120] }
noncomputable def lowR:Nat:=(World.holding Tryz.prog default ⟨#[],#[],[]⟩).heap.size
noncomputable def laidHeap (os:Os):Array Obj:=(((((((World.holding Tryz.prog os ⟨#[.cells #[.string textR] 306,.cells #[.string textS] 306],#[],[]⟩).heap.modify 8 (layO 0)).modify 9 (layO 1)).modify 2 (layO 2)).modify 7 (layO 3)).modify 5 (layE lowR)).modify 4 (layE (lowR+1))).modify 6 (layO 6)
noncomputable def laidWorld (os:Os):World:={ World.holding Tryz.prog os ⟨#[.cells #[.string textR] 306,.cells #[.string textS] 306],#[],[]⟩ with heap:=laidHeap os }
theorem laid_met (os:Os) (args:Array Value):laidMet Tryz.prog Rows.reportStandingsRow.laid ((laidWorld os).forCall (fun _ _=>0) ⟨#[],args,[]⟩).memory :=
 laidMet_of_run3 8 (by kernel_rfl) (by kernel_rfl) (by kernel_rfl)
theorem estar : "*" ++ "errors.errorString" = "*errors.errorString" := by decide
theorem erow (u:TypeId) (h:(Tryz.prog).typeName? 3 u=some "*errors.errorString"):u=304 :=
 typeName_ptr_named (nm := "errors.errorString") (by rw [estar];kernel_rfl) (by kernel_rfl) (by decide) u (by rw [estar];exact h)
theorem gd_of {W:World} (hL:laidMetH Tryz.prog Rows.reportStandingsRow.laid W) (hsh:W.ShapedOpen Tryz.prog):Gd W:=by
 refine ⟨?_,?_,?_,?_,?_⟩
 ·have hsome:(((begin Tryz.prog (fun _ _=>0) default).world.heap[9]?).bind Obj.row?).isSome=true:=by kernel_rfl
  obtain ⟨⟨zero,t⟩,h0⟩:=Option.isSome_iff_exists.1 hsome
  obtain ⟨cs,hh,_,_⟩:=hsh.1 9 zero t (of_decide_eq_true (by kernel_rfl)) h0
  have:9<W.heap.size:=(Array.getElem?_eq_some_iff.1 hh).1
  have e:gl=10:=by unfold gl;kernel_rfl
  omega
 ·exact Tryz.laysM145.s1_3 W hsh
 ·have h1:=hL.filter fun x=>x.1 == "internal/strconv.uint64pow10"
  have e:(Rows.reportStandingsRow.laid.filter fun x=>x.1 == "internal/strconv.uint64pow10")=[("internal/strconv.uint64pow10", Rows.laid_internal_strconv_uint64pow10)]:=by kernel_rfl
  rw [e] at h1
  have h2:laidMet Tryz.prog [("internal/strconv.uint64pow10", Lib.tabData .u64 Lib.pow10Tab)] W:=h1
  exact Lib.tabIs_of_head (g:=2) (t:=283) (e:=121) (n:=20) (by kernel_rfl) (by kernel_rfl) (by kernel_rfl) (by kernel_rfl) (by kernel_rfl) (by kernel_rfl) h2
 ·have h1:=hL.filter fun x=>x.1 == "strconv.ErrSyntax"
  have e:(Rows.reportStandingsRow.laid.filter fun x=>x.1 == "strconv.ErrSyntax")=[("strconv.ErrSyntax", Rows.laid_strconv_ErrSyntax)]:=by kernel_rfl
  rw [e] at h1
  have h2:laidMet Tryz.prog [("strconv.ErrSyntax", Rows.laid_strconv_ErrSyntax)] W:=h1
  obtain ⟨a,_,h3,_⟩:=laid_sentinel (g:=4) (ti:=142) (ts:=9) h2 (by kernel_rfl) (by kernel_rfl) Tryz.underlying142 erow Tryz.underlying304 Tryz.underlying306 rfl rfl Tryz.underlying9 (by kernel_rfl) (by kernel_rfl)
  exact ⟨_,_,h3⟩
 ·have h1:=hL.filter fun x=>x.1 == "strconv.ErrRange"
  have e:(Rows.reportStandingsRow.laid.filter fun x=>x.1 == "strconv.ErrRange")=[("strconv.ErrRange", Rows.laid_strconv_ErrRange)]:=by kernel_rfl
  rw [e] at h1
  have h2:laidMet Tryz.prog [("strconv.ErrRange", Rows.laid_strconv_ErrRange)] W:=h1
  obtain ⟨a,_,h3,_⟩:=laid_sentinel (g:=5) (ti:=142) (ts:=9) h2 (by kernel_rfl) (by kernel_rfl) Tryz.underlying142 erow Tryz.underlying304 Tryz.underlying306 rfl rfl Tryz.underlying9 (by kernel_rfl) (by kernel_rfl)
  exact ⟨_,_,h3⟩
end Go.Proofs.YtfkfficabeclcaaGreatDoor

namespace Go.Proofs.YtfkfficabeclcaaGreatDoor
open Go.RowKit Go.Sort Sx Go.Lib
abbrev Str:=List UInt8
theorem dig_of {k:Nat} (h:k<10):digitVal (UInt8.ofNat (48+k))=some k:=by
 have e:(UInt8.ofNat (48+k)).toNat=48+k:=by
  rw [UInt8.toNat_ofNat'];omega
 unfold digitVal
 rw [e,if_pos ⟨by omega,by omega⟩]
 congr 1;omega
def rdP:Nat→Str→Option Nat
 | n,[]=>some n
 | n,b::l=>match digitVal b with
  | some d=>if 10*n+d≤9223372036854775807 then rdP (10*n+d) l else none
  | none=>none
theorem rdP_app (n:Nat) (l r:Str):rdP n (l++r)=(rdP n l).bind fun m=>rdP m r:=by
 induction l generalizing n with
 | nil=>rfl
 | cons b l ih =>
  rw [List.cons_append,rdP,rdP]
  cases digitVal b with
  | none=>rfl
  | some d =>
   dsimp only
   split
   ·exact ih _
   ·rfl
theorem rdP_dec:∀ (u:Nat),u≤9223372036854775807→rdP 0 (decDigits u)=some u:=by
 intro u
 induction u using Nat.strongRecOn with
 | _ u ih =>
  intro hu
  by_cases h:u<10
  ·rw [decDigits,dif_pos h,rdP,dig_of h]
   dsimp only
   rw [if_pos (by omega),rdP]
   congr 1;omega
  ·rw [decDigits,dif_neg h,rdP_app,ih (u / 10) (by omega) (by omega)]
   show rdP (u / 10) _=_
   rw [rdP,dig_of (Nat.mod_lt _ (by decide))]
   dsimp only
   rw [if_pos (by omega),rdP]
   congr 1;omega
theorem decFrom_app (n:Nat) (l r:Str):decFrom n (l++r)=(decFrom n l).bind fun m=>decFrom m r:=by
 induction l generalizing n with
 | nil=>rfl
 | cons b l ih =>
  rw [List.cons_append,decFrom,decFrom]
  cases digitVal b with
  | none=>rfl
  | some d=>exact ih _
theorem decFrom_dec:∀ (u:Nat),decFrom 0 (decDigits u)=some u:=by
 intro u
 induction u using Nat.strongRecOn with
 | _ u ih =>
  by_cases h:u<10
  ·rw [decDigits,dif_pos h,decFrom,dig_of h]
   dsimp only
   rw [decFrom]
   congr 1;omega
  ·rw [decDigits,dif_neg h,decFrom_app,ih (u / 10) (by omega)]
   show decFrom (u / 10) _=_
   rw [decFrom,dig_of (Nat.mod_lt _ (by decide))]
   dsimp only
   rw [decFrom]
   congr 1;omega
theorem dec_mem:∀ (u:Nat),∀ b∈decDigits u,48≤b.toNat∧b.toNat≤57:=by
 intro u
 induction u using Nat.strongRecOn with
 | _ u ih =>
  have key:∀ k:Nat,k<10→48≤(UInt8.ofNat (48+k)).toNat∧(UInt8.ofNat (48+k)).toNat≤57:=fun k h=>by
   rw [UInt8.toNat_ofNat'];omega
  intro b hb
  by_cases h:u<10
  ·rw [decDigits,dif_pos h,List.mem_singleton] at hb
   subst hb;exact key u h
  ·rw [decDigits,dif_neg h] at hb
   rcases List.mem_append.1 hb with hb|hb
   ·exact ih (u / 10) (by omega) b hb
   ·rw [List.mem_singleton] at hb
    subst hb;exact key _ (Nat.mod_lt _ (by decide))
theorem dec_head {u:Nat} {r:Str}:decDigits u≠45::r:=fun h=>by
 have:=dec_mem u 45 (by rw [h];exact List.mem_cons_self ..)
 exact absurd this.1 (by decide)
abbrev fitI (n:Int):Prop := -9223372036854775807≤n∧n≤9223372036854775807
def wholeV (s:Str):Int × Bool:=match s with
 | 45::r=>(match rdP 0 r with|some n=>(-(n:Int),decide (itoa (-(n:Int))=s))|none=>(0,false))
 | _=>(match rdP 0 s with|some n=>((n:Int),decide (itoa (n:Int)=s))|none=>(0,false))
theorem itoa_neg {n:Nat} (h:0<n):itoa (-(n:Int))=45::decDigits n:=by
 unfold itoa
 rw [if_pos (by omega)]
 congr 2;omega
theorem itoa_pos (n:Nat):itoa (n:Int)=decDigits n:=by
 unfold itoa
 rw [if_neg (by omega)]
 congr 1
theorem rdP_le:∀ {l:Str} {n m:Nat},n≤9223372036854775807→rdP n l=some m→m≤9223372036854775807
 | [],n,m,h,e=>by rw [rdP] at e;injection e with e;omega
 | b::l,n,m,h,e=>by
  rw [rdP] at e
  split at e
  ·split at e
   ·rename_i hle;exact rdP_le hle e
   ·cases e
  ·cases e
theorem whole_ok {s:Str} (h:(wholeV s).2=true):fitI (wholeV s).1∧itoa (wholeV s).1=s:=by
 unfold wholeV at h ⊢
 split at h
 ·rename_i r
  cases e:rdP 0 r with
  | none=>rw [e] at h;cases h
  | some n =>
   rw [e] at h
   have:=rdP_le (by omega) e
   exact ⟨⟨by dsimp only;omega,by dsimp only;omega⟩,of_decide_eq_true h⟩
 ·cases e:rdP 0 s with
  | none=>rw [e] at h;cases h
  | some n =>
   rw [e] at h
   have:=rdP_le (by omega) e
   exact ⟨⟨by dsimp only;omega,by dsimp only;omega⟩,of_decide_eq_true h⟩
theorem whole_itoa {n:Int} (h:fitI n):wholeV (itoa n)=(n,true):=by
 obtain ⟨h1,h2⟩:=h
 rcases Int.lt_or_le n 0 with h0|h0
 ·obtain ⟨k,hk,rfl⟩:∃ k:Nat,0<k∧n = -(k:Int):=⟨n.natAbs,by omega,by omega⟩
  rw [itoa_neg hk]
  show (match rdP 0 (decDigits k) with|some n=>(-(n:Int),decide (itoa (-(n:Int))=45::decDigits k))|none=>(0,false))=_
  rw [rdP_dec k (by omega)]
  dsimp only
  rw [itoa_neg hk,decide_eq_true rfl]
 ·obtain ⟨k,rfl⟩:∃ k:Nat,n=(k:Int):=⟨n.toNat,by omega⟩
  rw [itoa_pos]
  unfold wholeV
  split
  ·rename_i r e;exact absurd e dec_head
  ·rw [rdP_dec k (by omega)]
   dsimp only
   rw [itoa_pos,decide_eq_true rfl]
end Go.Proofs.YtfkfficabeclcaaGreatDoor

namespace Go.Proofs.YtfkfficabeclcaaGreatDoor
open Go Go.RowKit Go.Sort Sx
open Go.Lib hiding intOf
theorem fmt_fn {n:Int}:FnOK Tryz.prog 76 [.one (i64 n),.one (i64 10)] (.c (.one (str (itoa n)))) :=
 fn_of_callsG (fun _ _=>Tryz.call76 _ _) rfl rfl (fun _=>.v trivial) (fun h w hg=>by
  have hb:=wd_i64.1 h.1
  exact (Tryz.strconv_FormatInt_10 n hb.1 hb.2 w hg.tab).mono fun e w' ⟨he,k,os,hw⟩=>⟨he,by rw [hw];exact below_regrown w (w.drawn+k) os⟩)
theorem ito_fn {n:Int}:FnOK Tryz.prog 77 [.one (i64 n)] (.c (.one (str (itoa n)))) :=
 fn_of_callsG (fun _ _=>Tryz.call77 _ _) rfl rfl (fun _=>.v trivial) (fun h w hg=>by
  have hb:=wd_i64.1 h.1
  exact (Tryz.strconv_Itoa n hb.1 hb.2 w hg.tab).mono fun e w' ⟨he,k,os,hw⟩=>⟨he,by rw [hw];exact below_regrown w (w.drawn+k) os⟩)
theorem pre_fn {s p:Str}:FnOK Tryz.prog 193 [.one (str s),.one (str p)] (.c (.one (bol (Lib.hasPrefix s p)))) :=
 fn_of_callsG (fun _ _=>Tryz.call193 _ _) rfl rfl (fun _=>.v trivial) (fun h w hg=>(Tryz.strings_HasPrefix ⟨s.toArray⟩ ⟨p.toArray⟩ w).mono fun e w' ⟨he,hw⟩=>⟨he,hw ▸ Below.refl _ _⟩)
def finW (s:Str) (fr:Nat) (R:Option Nat):Int × Bool:=match R with
 | some n=>(if fr=1 then -(n:Int) else n,decide (itoa (if fr=1 then -(n:Int) else n)=s))
 | none=>(0,false)
theorem finW_1 {s:Str} {fr n:Nat} (h:fr=1):finW s fr (some n)=(-(n:Int),decide (itoa (-(n:Int))=s)):=by subst h;rfl
theorem finW_0 {s:Str} {fr n:Nat} (h:fr≠1):finW s fr (some n)=((n:Int),decide (itoa (n:Int)=s)):=by unfold finW;dsimp only;rw [if_neg h]
theorem wholeV_fin (s:Str):wholeV s=finW s (if Lib.hasPrefix s [45] then 1 else 0) (rdP 0 (s.drop (if Lib.hasPrefix s [45] then 1 else 0))):=by
 unfold wholeV Lib.hasPrefix
 split
 ·rename_i r
  have e:([45]:Str).isPrefixOf (45::r)=true:=rfl
  rw [e]
  simp only [if_true,List.drop_succ_cons,List.drop_zero]
  rfl
 ·rename_i h
  have e:([45]:Str).isPrefixOf s=false:=by
   cases s with
   | nil=>rfl
   | cons b r =>
    have hb:b≠45:=fun e=>h r (by rw [e])
    simp [List.isPrefixOf,Ne.symm hb]
  rw [e]
  rfl
theorem digit_no {b:UInt8} (h:digitVal b=none):¬ (48≤b.toNat∧b.toNat≤57):=fun k=>by
 unfold digitVal at h
 rw [if_pos k] at h;cases h
theorem digit_some {b:UInt8} {d:Nat} (h:digitVal b=some d):48≤b.toNat∧b.toNat≤57∧d=b.toNat-48:=digitVal_eq h
theorem byte_no {b:UInt8} (h:digitVal b=none):IntKind.u8.wrap ((b.toNat:Int)-48) > 9:=by
 have h1:=digit_no h
 have h2:=b.toNat_lt
 rw [IntKind.wrap_u8]
 omega
theorem byte_some {b:UInt8} {d:Nat} (h:digitVal b=some d):d≤9∧IntKind.u8.wrap ((b.toNat:Int)-48)=(d:Int):=by
 have h1:=digit_some h
 rw [IntKind.wrap_u8]
 omega
theorem quo_of {d:Nat} (h:d≤9):IntKind.i64.wrap ((IntKind.i64.wrap (9223372036854775807-IntKind.i64.wrap (d:Int))).tdiv 10)=(9223372036854775807-(d:Int)) / 10:=by
 rw [IntWalk.i64_in (d:Int) (by omega),IntWalk.i64_in (9223372036854775807-(d:Int)) (by omega),Int.tdiv_eq_ediv_of_nonneg (by omega),IntWalk.i64_in _ (by omega)]
abbrev retWh (x:Int × Bool):DV:=.tup [.one (i64 x.1),.one (bol x.2)]
theorem whole_fn (s:Str) (hs:s.length≤1000000):FnOK Tryz.prog 140 [.one (str s)] (retWh (wholeV s)):=by
 have hpre:=@pre_fn s [45]
 rw [wholeV_fin]
 generalize hp:Lib.hasPrefix s [45]=p at *
 have hfl:(if p=true then 1 else 0)≤s.length:=by
  cases p with
  | false=>exact Nat.zero_le _
  | true =>
   cases s with
   | nil=>cases hp
   | cons b r=>simp
 have hfr:(if p=true then 1 else 0)=0∨(if p=true then 1 else 0)=1:=by cases p<;>simp
 obtain ⟨fr,hfe⟩:∃ fr:Nat,fr=if p=true then 1 else 0:=⟨_,rfl⟩
 rw [← hfe] at hfl hfr ⊢
 generalize hR:rdP 0 (s.drop fr)=R
 have hfm:∀ n:Int,FnOK Tryz.prog 76 [.one (i64 n),.one (i64 10)] (.c (.one (str (itoa n)))):=fun n=>fmt_fn
 refine fn_ok (by kernel_rfl) ty_ok Tryz.func140 rfl (fun _ _=>Tryz.call140 _ _) rfl ?_
 intro hw
 clear hw
 refine scope_J (by kernel_rfl) ty_ok 0 (σ:=Nat × Nat) (fun q=>[(2,sV (.int .i64 0)),(3,sV (.bool false)),(4,sV (.int .i64 (q.1:Nat))),(5,sV (.int .i64 (q.2:Nat))),(6,sV (.int .i64 (fr:Nat)))]) (fun _=>[]) (fun q=>fr≤q.2∧q.2≤s.length∧q.1≤9223372036854775807∧rdP q.1 (s.drop q.2)=R) (fun q=>s.length-q.2) rfl ?_ ?_
 ·cases p
  ·have hfe:fr=0:=hfe
   subst hfe
   cases hb:s[0]? with
   | none =>
    have hk:0=s.length:=by
     have:=List.getElem?_eq_none_iff.1 hb
     omega
    rw [show s.drop 0=[] from List.drop_eq_nil_of_le (by omega),rdP] at hR
    subst hR
    have en:IntKind.i64.wrap (0-0)=0:=by rw [IntWalk.i64_in _ (by omega)];omega
    repeat' ((conv=>whnf);first|(with_reducible first|refine br_t ?_|refine br_f ?_|refine za ?_|refine zg ?_)|refine za ?_ fmt_fn|refine zsl ?_|refine zsg ?_|refine zss ?_|refine zs1 ?_|refine zse ?_|refine zsn ?_|refine zsc ?_|(with_reducible first|refine zpa ?_|refine zqa ?_)|refine zp ?_|refine zq ?_|(with_reducible first|refine bc (fun h => ?_) (fun h => ?_)|refine zt ?_|refine zf ?_|refine br_i (fun h => ?_) (fun h => ?_))|refine zg ?_|refine zi ?_|refine zb ?_)
    all_goals conv=>whnf
    all_goals (first|(rw [en,finW_1 (by omega)];rfl)|(rw [finW_0 (by omega)];rfl))
   | some b =>
    have hk:0<s.length:=(List.getElem?_eq_some_iff.1 hb).1
    have hg:s[((0:Int)).toNat]? = some b:=by rw [show ((0:Int)).toNat=0 from rfl];exact hb
    have hdr:s.drop 0=b::s.drop 1:=by rw [List.drop_eq_getElem_cons hk,(List.getElem?_eq_some_iff.1 hb).2]
    rw [hdr,rdP] at hR
    cases hd:digitVal b with
    | none =>
     rw [hd] at hR
     dsimp only at hR
     subst hR
     have hc:=byte_no hd
     repeat' ((conv=>whnf);first|(with_reducible first|refine br_t ?_|refine br_f ?_|refine za ?_|refine zg ?_)|refine za ?_ fmt_fn|refine zsl ?_|refine zsg ?_|refine zss ?_|refine zs1 ?_|refine zse ?_|refine zsn ?_|refine zsc ?_|(with_reducible first|refine zpa ?_|refine zqa ?_)|refine zp ?_|refine zq ?_|(with_reducible first|refine bc (fun h => ?_) (fun h => ?_)|refine zt ?_|refine zf ?_|refine br_i (fun h => ?_) (fun h => ?_))|refine zg ?_|refine zi ?_|refine zb ?_)
     all_goals conv=>whnf
     all_goals rfl
    | some d =>
     rw [hd] at hR
     simp only [Nat.mul_zero,Nat.zero_add] at hR
     obtain ⟨hd9,hc⟩:=byte_some hd
     have hq:=quo_of hd9
     rw [← hc] at hq
     have h4:d≤9223372036854775807→IntKind.i64.wrap (IntKind.i64.wrap (10*0)+IntKind.i64.wrap (IntKind.u8.wrap ((b.toNat:Int)-48)))=((d:Nat):Int):=fun h=>by
      rw [hc,show IntKind.i64.wrap (10*0)=0 from by decide,IntWalk.i64_in (d:Int) (by omega),IntWalk.i64_in _ (by omega)];omega
     by_cases hle:d≤9223372036854775807
     ·rw [if_pos hle] at hR
      have h4:=h4 hle
      repeat' ((conv=>whnf);first|(with_reducible first|refine br_t ?_|refine br_f ?_|refine za ?_|refine zg ?_)|refine za ?_ fmt_fn|refine zsl ?_|refine zsg ?_|refine zss ?_|refine zs1 ?_|refine zse ?_|refine zsn ?_|refine zsc ?_|(with_reducible first|refine zpa ?_|refine zqa ?_)|refine zp ?_|refine zq ?_|(with_reducible first|refine bc (fun h => ?_) (fun h => ?_)|refine zt ?_|refine zf ?_|refine br_i (fun h => ?_) (fun h => ?_))|refine zg ?_|refine zi ?_|refine zb ?_)
      all_goals conv=>whnf
      refine ⟨(d,1),⟨by simp only;omega,by simp only;omega,hle,hR⟩,?_⟩
      (conv=>whnf);exact zent
     ·exact absurd (by omega) hle
  ·have hfe:fr=1:=hfe
   subst hfe
   cases hb:s[1]? with
   | none =>
    have hk:1=s.length:=by
     have:=List.getElem?_eq_none_iff.1 hb
     omega
    rw [show s.drop 1=[] from List.drop_eq_nil_of_le (by omega),rdP] at hR
    subst hR
    have en:IntKind.i64.wrap (0-0)=0:=by rw [IntWalk.i64_in _ (by omega)];omega
    repeat' ((conv=>whnf);first|(with_reducible first|refine br_t ?_|refine br_f ?_|refine za ?_|refine zg ?_)|refine za ?_ fmt_fn|refine zsl ?_|refine zsg ?_|refine zss ?_|refine zs1 ?_|refine zse ?_|refine zsn ?_|refine zsc ?_|(with_reducible first|refine zpa ?_|refine zqa ?_)|refine zp ?_|refine zq ?_|(with_reducible first|refine bc (fun h => ?_) (fun h => ?_)|refine zt ?_|refine zf ?_|refine br_i (fun h => ?_) (fun h => ?_))|refine zg ?_|refine zi ?_|refine zb ?_)
    all_goals conv=>whnf
    all_goals (first|(rw [en,finW_1 (by omega)];rfl)|(rw [finW_0 (by omega)];rfl))
   | some b =>
    have hk:1<s.length:=(List.getElem?_eq_some_iff.1 hb).1
    have hg:s[((1:Int)).toNat]? = some b:=by rw [show ((1:Int)).toNat=1 from rfl];exact hb
    have hdr:s.drop 1=b::s.drop 2:=by rw [List.drop_eq_getElem_cons hk,(List.getElem?_eq_some_iff.1 hb).2]
    rw [hdr,rdP] at hR
    cases hd:digitVal b with
    | none =>
     rw [hd] at hR
     dsimp only at hR
     subst hR
     have hc:=byte_no hd
     repeat' ((conv=>whnf);first|(with_reducible first|refine br_t ?_|refine br_f ?_|refine za ?_|refine zg ?_)|refine za ?_ fmt_fn|refine zsl ?_|refine zsg ?_|refine zss ?_|refine zs1 ?_|refine zse ?_|refine zsn ?_|refine zsc ?_|(with_reducible first|refine zpa ?_|refine zqa ?_)|refine zp ?_|refine zq ?_|(with_reducible first|refine bc (fun h => ?_) (fun h => ?_)|refine zt ?_|refine zf ?_|refine br_i (fun h => ?_) (fun h => ?_))|refine zg ?_|refine zi ?_|refine zb ?_)
     all_goals conv=>whnf
     all_goals rfl
    | some d =>
     rw [hd] at hR
     simp only [Nat.mul_zero,Nat.zero_add] at hR
     obtain ⟨hd9,hc⟩:=byte_some hd
     have hq:=quo_of hd9
     rw [← hc] at hq
     have h4:d≤9223372036854775807→IntKind.i64.wrap (IntKind.i64.wrap (10*0)+IntKind.i64.wrap (IntKind.u8.wrap ((b.toNat:Int)-48)))=((d:Nat):Int):=fun h=>by
      rw [hc,show IntKind.i64.wrap (10*0)=0 from by decide,IntWalk.i64_in (d:Int) (by omega),IntWalk.i64_in _ (by omega)];omega
     by_cases hle:d≤9223372036854775807
     ·rw [if_pos hle] at hR
      have h4:=h4 hle
      repeat' ((conv=>whnf);first|(with_reducible first|refine br_t ?_|refine br_f ?_|refine za ?_|refine zg ?_)|refine za ?_ fmt_fn|refine zsl ?_|refine zsg ?_|refine zss ?_|refine zs1 ?_|refine zse ?_|refine zsn ?_|refine zsc ?_|(with_reducible first|refine zpa ?_|refine zqa ?_)|refine zp ?_|refine zq ?_|(with_reducible first|refine bc (fun h => ?_) (fun h => ?_)|refine zt ?_|refine zf ?_|refine br_i (fun h => ?_) (fun h => ?_))|refine zg ?_|refine zi ?_|refine zb ?_)
      all_goals conv=>whnf
      refine ⟨(d,2),⟨by simp only;omega,by simp only;omega,hle,hR⟩,?_⟩
      (conv=>whnf);exact zent
     ·exact absurd (by omega) hle
 ·rintro ⟨n,k⟩ ⟨hk1,hk2,hn,hrd⟩
  simp only at hk1 hk2 hn hrd ⊢
  cases hb:s[k]? with
  | none =>
   have hk:k=s.length:=by
    have:=List.getElem?_eq_none_iff.1 hb
    omega
   subst hk
   rw [List.drop_length,rdP] at hrd
   subst hrd
   have en:IntKind.i64.wrap (0-(n:Int)) = -(n:Int):=by rw [IntWalk.i64_in _ (by omega)];omega
   repeat' ((conv=>whnf);first|(with_reducible first|refine br_t ?_|refine br_f ?_|refine za ?_|refine zg ?_)|refine za ?_ fmt_fn|refine zsl ?_|refine zsg ?_|refine zss ?_|refine zs1 ?_|refine zse ?_|refine zsn ?_|refine zsc ?_|(with_reducible first|refine zpa ?_|refine zqa ?_)|refine zp ?_|refine zq ?_|(with_reducible first|refine bc (fun h => ?_) (fun h => ?_)|refine zt ?_|refine zf ?_|refine br_i (fun h => ?_) (fun h => ?_))|refine zg ?_|refine zi ?_|refine zb ?_)
   all_goals conv=>whnf
   ·rw [en,finW_1 (by omega)]
   ·rw [finW_0 (by omega)]
  | some b =>
   have hk:k<s.length:=(List.getElem?_eq_some_iff.1 hb).1
   have hg:s[(k:Int).toNat]? = some b:=by rw [Int.toNat_natCast];exact hb
   have hdr:s.drop k=b::s.drop (k+1):=by rw [List.drop_eq_getElem_cons hk,(List.getElem?_eq_some_iff.1 hb).2]
   rw [hdr,rdP] at hrd
   cases hd:digitVal b with
   | none =>
    rw [hd] at hrd
    dsimp only at hrd
    subst hrd
    have hc:=byte_no hd
    repeat' ((conv=>whnf);first|(with_reducible first|refine br_t ?_|refine br_f ?_|refine za ?_|refine zg ?_)|refine za ?_ fmt_fn|refine zsl ?_|refine zsg ?_|refine zss ?_|refine zs1 ?_|refine zse ?_|refine zsn ?_|refine zsc ?_|(with_reducible first|refine zpa ?_|refine zqa ?_)|refine zp ?_|refine zq ?_|(with_reducible first|refine bc (fun h => ?_) (fun h => ?_)|refine zt ?_|refine zf ?_|refine br_i (fun h => ?_) (fun h => ?_))|refine zg ?_|refine zi ?_|refine zb ?_)
    all_goals conv=>whnf
    all_goals rfl
   | some d =>
    rw [hd] at hrd
    dsimp only at hrd
    obtain ⟨hd9,hc⟩:=byte_some hd
    have hq:=quo_of hd9
    rw [← hc] at hq
    have h4:10*n+d≤9223372036854775807→IntKind.i64.wrap (IntKind.i64.wrap (10*(n:Int))+IntKind.i64.wrap (IntKind.u8.wrap ((b.toNat:Int)-48)))=((10*n+d:Nat):Int):=fun h=>by
     rw [hc,IntWalk.i64_in (10*(n:Int)) (by omega),IntWalk.i64_in (d:Int) (by omega),IntWalk.i64_in _ (by omega)];omega
    by_cases hle:10*n+d≤9223372036854775807
    ·rw [if_pos hle] at hrd
     have h4:=h4 hle
     repeat' ((conv=>whnf);first|(with_reducible first|refine br_t ?_|refine br_f ?_|refine za ?_|refine zg ?_)|refine za ?_ fmt_fn|refine zsl ?_|refine zsg ?_|refine zss ?_|refine zs1 ?_|refine zse ?_|refine zsn ?_|refine zsc ?_|(with_reducible first|refine zpa ?_|refine zqa ?_)|refine zp ?_|refine zq ?_|(with_reducible first|refine bc (fun h => ?_) (fun h => ?_)|refine zt ?_|refine zf ?_|refine br_i (fun h => ?_) (fun h => ?_))|refine zg ?_|refine zi ?_|refine zb ?_)
     all_goals conv=>whnf
     refine ⟨(10*n+d,k+1),⟨by simp only;omega,by simp only;omega,hle,hrd⟩,?_,by simp only;omega⟩
     (conv=>whnf);exact zent
    ·rw [if_neg hle] at hrd
     subst hrd
     repeat' ((conv=>whnf);first|(with_reducible first|refine br_t ?_|refine br_f ?_|refine za ?_|refine zg ?_)|refine za ?_ fmt_fn|refine zsl ?_|refine zsg ?_|refine zss ?_|refine zs1 ?_|refine zse ?_|refine zsn ?_|refine zsc ?_|(with_reducible first|refine zpa ?_|refine zqa ?_)|refine zp ?_|refine zq ?_|(with_reducible first|refine bc (fun h => ?_) (fun h => ?_)|refine zt ?_|refine zf ?_|refine br_i (fun h => ?_) (fun h => ?_))|refine zg ?_|refine zi ?_|refine zb ?_)
     all_goals conv=>whnf
     all_goals rfl
end Go.Proofs.YtfkfficabeclcaaGreatDoor

namespace Go.Proofs.YtfkfficabeclcaaGreatDoor
open Go.RowKit Go.Sort Sx Go.Lib
def spl (c:UInt8):Str→List Str
 | []=>[[]]
 | b::l=>if b=c then []::spl c l else match spl c l with|h::t=>(b::h)::t|[]=>[[b]]
def cut1 (c:UInt8):Str→Str × Str × Bool
 | []=>([],[],false)
 | b::l=>if b=c then ([],l,true) else (b::(cut1 c l).1,(cut1 c l).2.1,(cut1 c l).2.2)
theorem spl_at {c:UInt8}:∀ {a:Str} (r:Str),c ∉ a→spl c (a++c::r)=a::spl c r
 | [],r,_=>by rw [List.nil_append,spl,if_pos rfl]
 | b::a,r,h=>by
  rw [List.cons_append,spl,if_neg (fun e=>h (by rw [e];exact List.mem_cons_self ..)),spl_at r (fun k=>h (List.mem_cons_of_mem _ k))]
theorem spl_no {c:UInt8}:∀ {a:Str},c ∉ a→spl c a=[a]
 | [],_=>rfl
 | b::a,h=>by
  rw [spl,if_neg (fun e=>h (by rw [e];exact List.mem_cons_self ..)),spl_no (fun k=>h (List.mem_cons_of_mem _ k))]
theorem cut1_at {c:UInt8}:∀ {a:Str} (r:Str),c ∉ a→cut1 c (a++c::r)=(a,r,true)
 | [],r,_=>by rw [List.nil_append,cut1,if_pos rfl]
 | b::a,r,h=>by
  rw [List.cons_append,cut1,if_neg (fun e=>h (by rw [e];exact List.mem_cons_self ..)),cut1_at r (fun k=>h (List.mem_cons_of_mem _ k))]
theorem cut1_no {c:UInt8}:∀ {a:Str},c ∉ a→cut1 c a=(a,[],false)
 | [],_=>rfl
 | b::a,h=>by
  rw [cut1,if_neg (fun e=>h (by rw [e];exact List.mem_cons_self ..)),cut1_no (fun k=>h (List.mem_cons_of_mem _ k))]
theorem spl_ne (c:UInt8):∀ s:Str,spl c s≠[]
 | []=>by simp [spl]
 | b::l=>by
  rw [spl]
  split
  ·simp
  ·split<;>simp
theorem itoa_mem {n:Int} {b:UInt8} (h:b∈itoa n):b=45∨(48≤b.toNat∧b.toNat≤57):=by
 unfold itoa at h
 split at h
 ·rcases List.mem_cons.1 h with h|h
  ·exact .inl h
  ·exact .inr (dec_mem _ b h)
 ·exact .inr (dec_mem _ b h)
theorem itoa_no {n:Int} {c:UInt8} (h1:c≠45) (h2:c.toNat<48∨57<c.toNat):c ∉ itoa n:=fun h=>by
 rcases itoa_mem h with h|h
 ·exact h1 h
 ·omega
def wrtV (n d:Int):Str:=if d=1 then itoa n else itoa n++47::itoa d
def numV (n d:Int):Str × Int:=if chk n d=0 then (wrtV n d,0) else ([],8)
def backV (s:Str) (n d:Int):(Int × Int) × Int:=if chk n d=0∧wrtV n d=s then ((n,d),0) else ((0,0),12)
def readV (s:Str):(Int × Int) × Int :=
 if (wholeV (cut1 47 s).1).2=true∧((cut1 47 s).2.2=true→(wholeV (cut1 47 s).2.1).2=true) then backV s (wholeV (cut1 47 s).1).1 (if (cut1 47 s).2.2 then (wholeV (cut1 47 s).2.1).1 else 1) else ((0,0),12)
structure IsRead (f:Str→(Int × Int) × Int):Prop where
 ok:∀ s,(f s).2=0→chk (f s).1.1 (f s).1.2=0∧wrtV (f s).1.1 (f s).1.2=s
 no:∀ s,(f s).2≠0→f s=((0,0),12)
 of:∀ n d,chk n d=0→fitI n→fitI d→f (wrtV n d)=((n,d),0)
 fit:∀ s,(f s).2=0→fitI (f s).1.1∧fitI (f s).1.2
theorem IsRead.eq {f g:Str→(Int × Int) × Int} (hf:IsRead f) (hg:IsRead g) (s:Str):f s=g s:=by
 have key:∀ {f g:Str→(Int × Int) × Int},IsRead f→IsRead g→(f s).2=0→f s=g s:=fun {f g} hf hg h=>by
  obtain ⟨a,b⟩:=hf.ok s h
  obtain ⟨c,d⟩:=hf.fit s h
  have:=hg.of _ _ a c d
  rw [b] at this
  rw [this,← h]
 by_cases h:(f s).2=0
 ·exact key hf hg h
 ·by_cases h2:(g s).2=0
  ·exact (key hg hf h2).symm
  ·rw [hf.no s h,hg.no s h2]
theorem IsRead.cases {f:Str→(Int × Int) × Int} (hf:IsRead f) (s:Str):(∃ n d,chk n d=0∧fitI n∧fitI d∧wrtV n d=s∧f s=((n,d),0))∨(f s=((0,0),12)∧∀ n d,chk n d=0→fitI n→fitI d→wrtV n d≠s):=by
 by_cases h:(f s).2=0
 ·obtain ⟨a,b⟩:=hf.ok s h
  obtain ⟨c,d⟩:=hf.fit s h
  refine .inl ⟨_,_,a,c,d,b,?_⟩
  rw [← h]
 ·refine .inr ⟨hf.no s h,fun n d h1 h2 h3 e => ?_⟩
  have:=hf.of n d h1 h2 h3
  rw [e] at this
  rw [this] at h;exact h rfl
theorem backV_ok {s:Str} {n d:Int} (h:(backV s n d).2=0):chk (backV s n d).1.1 (backV s n d).1.2=0∧wrtV (backV s n d).1.1 (backV s n d).1.2=s:=by
 unfold backV at h ⊢
 split at h
 ·rename_i c;rw [if_pos c];exact c
 ·cases h
theorem backV_fit {s:Str} {n d:Int} (hn:fitI n) (hd:fitI d):fitI (backV s n d).1.1∧fitI (backV s n d).1.2:=by
 unfold backV
 split
 ·exact ⟨hn,hd⟩
 ·exact ⟨⟨by decide,by decide⟩,⟨by decide,by decide⟩⟩
theorem backV_no {s:Str} {n d:Int} (h:(backV s n d).2≠0):backV s n d=((0,0),12):=by
 unfold backV at h ⊢
 split at h
 ·exact absurd rfl h
 ·rename_i c;rw [if_neg c]
theorem readV_is:IsRead readV:=by
 refine ⟨fun s h => ?_,fun s h => ?_,fun n d hc hn hd => ?_,fun s h => ?_⟩
 ·unfold readV at h ⊢
  split at h
  ·rename_i c;rw [if_pos c];exact backV_ok h
  ·cases h
 ·unfold readV at h ⊢
  split at h
  ·rename_i c;rw [if_pos c];exact backV_no h
  ·rename_i c;rw [if_neg c]
 ·have hb:∀ s,wrtV n d=s→backV s n d=((n,d),0):=fun s e=>by unfold backV;rw [if_pos ⟨hc,e⟩]
  have hno:(47:UInt8) ∉ itoa n:=itoa_no (by decide) (by decide)
  unfold readV
  by_cases h1:d=1
  ·have e:wrtV n d=itoa n:=by unfold wrtV;rw [if_pos h1]
   rw [e,cut1_no hno]
   dsimp only
   rw [whole_itoa hn,if_pos ⟨rfl,fun h=>by cases h⟩]
   dsimp only
   rw [← h1]
   exact hb _ e
  ·have e:wrtV n d=itoa n++47::itoa d:=by unfold wrtV;rw [if_neg h1]
   rw [e,cut1_at _ hno]
   dsimp only
   rw [whole_itoa hn,whole_itoa hd,if_pos ⟨rfl,fun _=>rfl⟩]
   dsimp only
   rw [if_pos rfl]
   exact hb _ e
 ·unfold readV at h ⊢
  split at h
  ·rename_i c
   rw [if_pos c]
   refine backV_fit (whole_ok c.1).1 ?_
   split
   ·rename_i c2;exact (whole_ok (c.2 c2)).1
   ·exact ⟨by decide,by decide⟩
  ·cases h
end Go.Proofs.YtfkfficabeclcaaGreatDoor

namespace Go.Proofs.YtfkfficabeclcaaGreatDoor
open Go.RowKit Go.Sort Sx Go.Lib
theorem idx_cons (c b:UInt8) (l:Str):Lib.index (b::l) [c]=if b=c then 0 else if Lib.index l [c] = -1 then -1 else Lib.index l [c]+1:=by
 rw [Lib.index]
 have e:([c]:Str).isPrefixOf (b::l)=(c == b):=by simp [List.isPrefixOf]
 rw [e]
 by_cases h:b=c
 ·subst h;simp
 ·rw [if_neg h,if_neg (by simpa using fun k=>h k.symm)]
  by_cases h2:Lib.index l [c] = -1
  ·rw [if_pos (by rw [h2];rfl),if_pos h2]
  ·rw [if_neg (by simpa using h2),if_neg h2]
theorem spl_idx (c:UInt8):∀ s:Str,(Lib.index s [c] = -1→spl c s=[s]∧cut1 c s=(s,[],false))∧∀ i:Nat,Lib.index s [c]=i→spl c s=s.take i::spl c (s.drop (i+1))∧cut1 c s=(s.take i,s.drop (i+1),true)∧i<s.length
 | []=>⟨fun _=>⟨rfl,rfl⟩,fun i h=>by
   have:Lib.index ([]:Str) [c] = -1:=rfl
   omega⟩
 | b::l=>by
  obtain ⟨h1,h2⟩:=spl_idx c l
  rw [idx_cons]
  by_cases h:b=c
  ·rw [if_pos h]
   refine ⟨fun k=>by omega,fun i k => ?_⟩
   have:i=0:=by omega
   subst this
   refine ⟨?_,?_,by simp⟩
   ·rw [spl,if_pos h];rfl
   ·rw [cut1,if_pos h];rfl
  ·rw [if_neg h]
   by_cases h3:Lib.index l [c] = -1
   ·rw [if_pos h3]
    obtain ⟨a,b'⟩:=h1 h3
    refine ⟨fun _=>⟨?_,?_⟩,fun i k=>by omega⟩
    ·rw [spl,if_neg h,a]
    ·rw [cut1,if_neg h,b']
   ·rw [if_neg h3]
    have hg:=Lib.index_ge l [c]
    refine ⟨fun k=>by omega,fun i k => ?_⟩
    obtain ⟨j,rfl⟩:∃ j,i=j+1:=⟨i-1,by omega⟩
    obtain ⟨a,b',c'⟩:=h2 j (by omega)
    refine ⟨?_,?_,by simp;omega⟩
    ·rw [spl,if_neg h,a];rfl
    ·rw [cut1,if_neg h,b'];rfl
theorem lcut_eq (c:UInt8) (s:Str):Lib.cut s [c]=cut1 c s:=by
 obtain ⟨h1,h2⟩:=spl_idx c s
 have hg:=Lib.index_ge s [c]
 unfold Lib.cut
 by_cases h:0≤Lib.index s [c]
 ·rw [if_pos h]
  obtain ⟨i,hi⟩:∃ i:Nat,Lib.index s [c]=i:=⟨(Lib.index s [c]).toNat,by omega⟩
  rw [(h2 i hi).2.1,hi,Int.toNat_natCast];rfl
 ·rw [if_neg h,(h1 (by omega)).2]
theorem lsplit_eq (c:UInt8):∀ (n:Nat) (s:Str),s.length≤n→Lib.splitK [c] 0 (Lib.count s [c]) s=spl c s
 | n,s,hn=>by
  obtain ⟨h1,h2⟩:=spl_idx c s
  have hg:=Lib.index_ge s [c]
  by_cases h:Lib.index s [c] = -1
  ·rw [Lib.count_miss h,(h1 h).1];rfl
  ·obtain ⟨i,hi⟩:∃ i:Nat,Lib.index s [c]=i:=⟨(Lib.index s [c]).toNat,by omega⟩
   obtain ⟨a,b,hlt⟩:=h2 i hi
   cases n with
   | zero=>omega
   | succ n =>
    have hc:Lib.count s [c]=1+Lib.count (s.drop (i+1)) [c]:=Lib.count_hit (by simp) hi
    rw [hc,Nat.add_comm 1,Lib.splitK,if_neg (by simpa using h),hi,Int.toNat_natCast,a]
    have:=lsplit_eq c n (s.drop (i+1)) (by rw [List.length_drop];omega)
    rw [show i+[c].length=i+1 from rfl,this,Nat.add_zero]
theorem spl_len (c:UInt8):∀ s:Str,(spl c s).length≤s.length+1
 | []=>by simp [spl]
 | b::l=>by
  have:=spl_len c l
  have hne:=spl_ne c l
  rw [spl]
  split
  ·simp only [List.length_cons];omega
  ·split
   ·rename_i h t e;rw [e] at this;simp only [List.length_cons] at this ⊢;omega
   ·rename_i e;exact absurd e hne
theorem spl_each (c:UInt8):∀ (s:Str),∀ x∈spl c s,x.length≤s.length
 | [],x,h=>by simp [spl] at h;subst h;simp
 | b::l,x,h=>by
  have ih:=spl_each c l
  rw [spl] at h
  split at h
  ·rcases List.mem_cons.1 h with rfl|h
   ·simp
   ·have:=ih x h;simp only [List.length_cons];omega
  ·split at h
   ·rename_i a t e
    rw [e] at ih
    rcases List.mem_cons.1 h with rfl|h
    ·have:=ih a (List.mem_cons_self ..);simp only [List.length_cons];omega
    ·have:=ih x (List.mem_cons_of_mem _ h);simp only [List.length_cons];omega
   ·rename_i e;exact absurd e (spl_ne c l)
theorem cut1_len (c:UInt8):∀ s:Str,(cut1 c s).1.length≤s.length∧(cut1 c s).2.1.length≤s.length
 | []=>by simp [cut1]
 | b::l=>by
  have ih:=cut1_len c l
  rw [cut1]
  split
  ·simp
  ·simp only [List.length_cons];omega
end Go.Proofs.YtfkfficabeclcaaGreatDoor
