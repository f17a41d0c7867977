import Derived.Test.YtfkfficabeclcaaGreatDoorGLTStandingsAR
import Derived.Test.YtfkfficabeclcaaGreatDoorGLTStandingsAS
import Derived.Test.YtfkfficabeclcaaGreatDoorGLTStandingsAQ
import Derived.Laws.BytesString
set_option linter.all false
namespace Go.Proofs.YtfkfficabeclcaaGreatDoor
open Go.RowKit Go.Sort Sx
theorem askd_ok {n d:Int} (h:askd n d=0):chk n d=0 ∧ -1073741824≤n∧n≤1073741824∧1≤d∧d≤1024:=by
 unfold askd at h
 split at h
 ·rename_i h1;exact absurd h h1
 ·rename_i h1
  have h1:chk n d=0:=by omega
  have:=(chk_iff n d).1 h1
  split at h
  ·omega
  ·exact ⟨h1,by omega⟩
theorem Pt.chk_ok {p:Pt} (h:p.chk=0):0≤p.id∧p.id≤65535 ∧ -1048576≤p.a∧p.a≤1048576 ∧ -1048576≤p.b∧p.b≤1048576:=cpt_ok h
theorem lin_in {a b n m:Int} (ha : -2097152≤a) (ha':a≤2097152) (hb : -2097152≤b) (hb':b≤2097152) (hn : -1073741824≤n) (hn':n≤1073741824) (hm:1≤m) (hm':m≤1024) :
  -4503599627370496≤a*m+b*n∧a*m+b*n≤4503599627370496:=by
 have h1:=prod_in2 a m 2097152 1024 (by omega) (by omega) (by omega) (by omega)
 have h2:=prod_in2 b n 2097152 1073741824 (by omega) (by omega) (by omega) (by omega)
 omega
def plc (p:Pt) (n m:Int):Int × Int:=((outQ (qv (p.a*m+p.b*n) m)).1,(outQ (qv (p.a*m+p.b*n) m)).2.1)
theorem plc_ok {p:Pt} {n m:Int} (hp:p.chk=0) (ht:askd n m=0):atV p.id p.a p.b n m=((plc p n m).1,(plc p n m).2,0)∧chk (plc p n m).1 (plc p n m).2=0 ∧
  qv (plc p n m).1 (plc p n m).2=qv (p.a*m+p.b*n) m∧1≤(plc p n m).2∧(plc p n m).2≤1024 ∧ -4503599627370496≤(plc p n m).1∧(plc p n m).1≤4503599627370496:=by
 obtain ⟨h1,h2,h3,h4,h5⟩:=askd_ok ht
 have h6:=p.chk_ok hp
 have h7:=lin_in (a:=p.a) (b:=p.b) (n:=n) (m:=m) (by omega) (by omega) (by omega) (by omega) h2 h3 h4 h5
 obtain ⟨x,y,e1,e2,e3,e4,e5,e6⟩:=outQ_sm (n:=p.a*m+p.b*n) (d:=m) h4 (by omega) (by omega) (by omega)
 unfold plc atV
 rw [if_pos ⟨hp,h1⟩,e1]
 exact ⟨rfl,e2,e3,e4,by show y≤1024;omega,by show _≤x;omega,by show x≤_;omega⟩
def dst (p q:Pt) (n m:Int):Int × Int:=(((outQ (qv ((p.a-q.a)*m+(p.b-q.b)*n) m)).1.natAbs:Int),(outQ (qv ((p.a-q.a)*m+(p.b-q.b)*n) m)).2.1)
theorem dst_ok {p q:Pt} {n m:Int} (hp:p.chk=0) (hq:q.chk=0) (ht:askd n m=0):∃ s,subV (plc p n m).1 (plc p n m).2 (plc q n m).1 (plc q n m).2=(s,(dst p q n m).2,0) ∧
  (s<0∧(dst p q n m).1 = -s∨0≤s∧(dst p q n m).1=s)∧chk (dst p q n m).1 (dst p q n m).2=0∧1≤(dst p q n m).2∧(dst p q n m).2≤1024∧0≤(dst p q n m).1∧(dst p q n m).1≤4503599627370496:=by
 obtain ⟨h1,h2,h3,h4,h5⟩:=askd_ok ht
 have h6:=p.chk_ok hp
 have h6':=q.chk_ok hq
 have h7:=lin_in (a:=p.a-q.a) (b:=p.b-q.b) (n:=n) (m:=m) (by omega) (by omega) (by omega) (by omega) h2 h3 h4 h5
 obtain ⟨_,p2,p3,p4,p5,p6,p7⟩:=plc_ok hp ht
 obtain ⟨_,q2,q3,q4,q5,q6,q7⟩:=plc_ok hq ht
 obtain ⟨x,y,e1,e2,e3,e4,e5,e6⟩:=outQ_sm (n:=(p.a-q.a)*m+(p.b-q.b)*n) (d:=m) h4 (by omega) (by omega) (by omega)
 have hs:qv (p.a*m+p.b*n) m-qv (q.a*m+q.b*n) m=qv ((p.a-q.a)*m+(p.b-q.b)*n) m:=by
  rw [qv_sub h4 h4,qv_eq (by have:=Int.mul_le_mul h4 h4 (by omega) (by omega);simpa using this) h4]
  simp only [Int.sub_mul,Int.add_mul,Int.mul_assoc]
  rw [Int.mul_comm m m]
  omega
 refine ⟨x,?_⟩
 rw [subV_q p2 q2 (by omega),p3,q3,hs]
 unfold dst
 rw [e1]
 have hc:chk (x.natAbs:Int) y=0:=by
  obtain ⟨c1,c2,c3⟩:=(chk_iff x y).1 e2
  exact (chk_iff _ _).2 ⟨c1,by omega,by rw [Int.natAbs_natCast];exact c3⟩
 exact ⟨rfl,by show x<0∧((x.natAbs:Nat):Int)=_∨_∧((x.natAbs:Nat):Int)=_;omega,hc,e4,by show y≤_;omega,by show 0≤((x.natAbs:Nat):Int);omega,by show ((x.natAbs:Nat):Int)≤_;omega⟩
abbrev CSt:=Nat × Nat × Int × Int
def cupd (s:CSt) (a b:Nat) (d:Int × Int):CSt:=if s.2.2.2=0∨d.1*s.2.2.2<s.2.2.1*d.2 then (a,b,d.1,d.2) else s
def innerC (n m:Int) (p:Pt) (a:Nat):List Pt→Nat→CSt→CSt
 | [],_,s=>s
 | q::r,b,s=>innerC n m p a r (b+1) (cupd s a b (dst p q n m))
def outerC (n m:Int):List Pt→Nat→CSt→CSt
 | [],_,s=>s
 | p::r,a,s=>outerC n m r (a+1) (innerC n m p a r (a+1) s)
theorem innerC_lt {n m:Int} {p:Pt} {a:Nat} {l:List Pt} {b:Nat} {s:CSt} (h:b<l.length):innerC n m p a (l.drop b) b s=innerC n m p a (l.drop (b+1)) (b+1) (cupd s a b (dst p l[b] n m)):=by
 rw [List.drop_eq_getElem_cons h,innerC]
theorem innerC_ge {n m:Int} {p:Pt} {a:Nat} {l:List Pt} {b:Nat} {s:CSt} (h:l.length≤b):innerC n m p a (l.drop b) b s=s:=by
 rw [List.drop_eq_nil_of_le h,innerC]
theorem outerC_lt {n m:Int} {l:List Pt} {a:Nat} {s:CSt} (h:a<l.length):outerC n m (l.drop a) a s=outerC n m (l.drop (a+1)) (a+1) (innerC n m l[a] a (l.drop (a+1)) (a+1) s):=by
 rw [List.drop_eq_getElem_cons h,outerC]
theorem outerC_ge {n m:Int} {l:List Pt} {a:Nat} {s:CSt} (h:l.length≤a):outerC n m (l.drop a) a s=s:=by
 rw [List.drop_eq_nil_of_le h,outerC]
def pairC (l:List Pt) (n m:Int):CSt:=outerC n m l 0 (0,0,0,0)
theorem pairC_ref {p q:Pt} {l:List Pt} {n m:Int} (hd:(dst p q n m).2≠0):pairC (p::q::l) n m=outerC n m (p::q::l) 0 (0,1,(dst p q n m).1,(dst p q n m).2):=by
 have e:cupd (0,0,0,0) 0 1 (dst p q n m)=cupd (0,1,(dst p q n m).1,(dst p q n m).2) 0 1 (dst p q n m):=by
  unfold cupd
  rw [if_pos (.inl rfl),if_neg (by simp only [not_or];exact ⟨hd,Int.lt_irrefl _⟩)]
 unfold pairC
 simp only [outerC,innerC,Nat.zero_add]
 rw [e]
def cgood (l:List Pt) (s:CSt):Prop:=chk s.2.2.1 s.2.2.2=0∧1≤s.2.2.2∧s.2.2.2≤1024∧0≤s.2.2.1∧s.2.2.1≤4503599627370496∧s.1<l.length∧s.2.1<l.length
theorem cgood_upd {l:List Pt} {n m:Int} {s:CSt} {a b:Nat} (h:s.2.2.2=0∨cgood l s) (hl:∀ p∈l,p.chk=0) (ht:askd n m=0) (ha:a<l.length) (hb:b<l.length):cgood l (cupd s a b (dst l[a] l[b] n m)):=by
 obtain ⟨x,_,_,d1,d2,d3,d4,d5⟩:=dst_ok (hl _ (List.getElem_mem ha)) (hl _ (List.getElem_mem hb)) ht
 unfold cupd
 split
 ·exact ⟨d1,d2,d3,d4,d5,ha,hb⟩
 ·rename_i hc
  rcases h with h|h
  ·exact absurd (.inl h) hc
  ·exact h
theorem cgood_inner {l:List Pt} {n m:Int} {a:Nat} (hl:∀ p∈l,p.chk=0) (ht:askd n m=0) (ha:a<l.length):∀ {k b:Nat} {s:CSt},k=l.length-b→(cgood l s∨s.2.2.2=0∧b<l.length)→cgood l (innerC n m l[a] a (l.drop b) b s):=by
 intro k
 induction k with
 | zero =>
  intro b s hk h
  rw [innerC_ge (by omega)]
  rcases h with h|h
  ·exact h
  ·omega
 | succ k ih =>
  intro b s hk h
  rw [innerC_lt (by omega)]
  exact ih (by omega) (.inl (cgood_upd (h.elim .inr fun h=>.inl h.1) hl ht ha (by omega)))
theorem cgood_outer {l:List Pt} {n m:Int} (hl:∀ p∈l,p.chk=0) (ht:askd n m=0):∀ {k a:Nat} {s:CSt},k=l.length-a→(cgood l s∨s.2.2.2=0∧a+1<l.length)→cgood l (outerC n m (l.drop a) a s):=by
 intro k
 induction k with
 | zero =>
  intro a s hk h
  rw [outerC_ge (by omega)]
  rcases h with h|h
  ·exact h
  ·omega
 | succ k ih =>
  intro a s hk h
  rw [outerC_lt (by omega)]
  exact ih (by omega) (.inl (cgood_inner hl ht (by omega) rfl (h.elim .inl fun h=>.inr h)))
theorem pairC_ok {l:List Pt} {n m:Int} (hl:∀ p∈l,p.chk=0) (ht:askd n m=0) (h2:2≤l.length):cgood l (pairC l n m) :=
 cgood_outer (a:=0) hl ht rfl (.inr ⟨rfl,by omega⟩)
def closV (l:List Pt) (n m:Int):Int × Int × Int × Int × Int :=
 if fchk l=0 then (if askd n m=0 then (if l.length<2 then (0,0,0,0,42) else
  ((l[(pairC l n m).1]?.getD default).id,(l[(pairC l n m).2.1]?.getD default).id,(pairC l n m).2.2.1,(pairC l n m).2.2.2,0)) else (0,0,0,0,askd n m)) else (0,0,0,0,fchk l)
abbrev retC (x:Int × Int × Int × Int × Int):DV:=.tup [.one (i64 x.1),.one (i64 x.2.1),.agg [i64 x.2.2.1,i64 x.2.2.2.1],.one (i64 x.2.2.2.2)]
end Go.Proofs.YtfkfficabeclcaaGreatDoor

namespace Go.Proofs.YtfkfficabeclcaaGreatDoor
open Go.RowKit Go.Sort Sx Go.Lib
structure Reads {α:Type} (wr:α→Str) (good:α→Prop) (bad:α) (f:Str→α × Int):Prop where
 ok:∀ s,(f s).2=0→good (f s).1∧wr (f s).1=s
 no:∀ s,(f s).2≠0→f s=(bad,12)
 of:∀ a,good a→f (wr a)=(a,0)
theorem Reads.eq {α:Type} {wr:α→Str} {good:α→Prop} {bad:α} {f g:Str→α × Int} (hf:Reads wr good bad f) (hg:Reads wr good bad g) (s:Str):f s=g s:=by
 have key:∀ {f g:Str→α × Int},Reads wr good bad f→Reads wr good bad g→(f s).2=0→f s=g s:=fun {f g} hf hg h=>by
  obtain ⟨a,b⟩:=hf.ok s h
  have:=hg.of _ a
  rw [b] at this
  rw [this,← h]
 by_cases h:(f s).2=0
 ·exact key hf hg h
 ·by_cases h2:(g s).2=0
  ·exact (key hg hf h2).symm
  ·rw [hf.no s h,hg.no s h2]
def joinS:List Str→Str
 | []=>[]
 | [a]=>a
 | a::l=>a++32::joinS l
theorem itoa_no32 (n:Int):(32:UInt8) ∉ itoa n:=itoa_no (by decide) (by decide)
theorem wrt_no32 (n d:Int):(32:UInt8) ∉ wrtV n d:=by
 unfold wrtV
 split
 ·exact itoa_no32 n
 ·intro h
  rcases List.mem_append.1 h with h|h
  ·exact itoa_no32 n h
  ·rcases List.mem_cons.1 h with h|h
   ·exact absurd h (by decide)
   ·exact itoa_no32 d h
end Go.Proofs.YtfkfficabeclcaaGreatDoor

namespace Go.Proofs.YtfkfficabeclcaaGreatDoor
open Go Go.RowKit Go.Sort Sx
open Go.Lib hiding intOf
theorem foldl_push (ns:List Int):∀ (a:ByteArray),ns.foldl (fun r n=>r.push (UInt8.ofNat n.toNat)) a=⟨(a.data.toList++ns.map fun n=>UInt8.ofNat n.toNat).toArray⟩:=by
 induction ns with
 | nil=>intro a;apply ByteArray.ext;simp
 | cons n ns ih =>
  intro a
  rw [List.foldl_cons,ih]
  apply ByteArray.ext
  simp [ByteArray.push]
theorem rep_v {w:World} {M:Nat→Prop} {x v:Value} (h:Rep w M (.v x) v):v=x:=by cases h;rfl
theorem conv_bytes {w:World} {M:Nat→Prop} {l:List Int} {v:Value} (h0:l≠[]) (h:Rep w M (.list 1 (l.map fun x=>[.v (.int .u8 x)])) v):(convert 45 9 v).run Tryz.prog w=.ok (bstr (l.map fun n=>UInt8.ofNat n.toNat)) w:=by
 obtain ⟨L,hL⟩:∃ L:List (List Sx.D),L=l.map fun x=>[.v (.int .u8 x)]:=⟨_,rfl⟩
 have hll:L.length=l.length:=by rw [hL,List.length_map]
 have h':Rep w M (.list 1 L) v:=by rw [hL];exact h
 clear h
 cases h' with
 | nil k x c hm hx=>exact absurd (List.eq_nil_of_length_eq_zero (by rw [← hll];rfl)) h0
 | @list b off cap k L vs hc hm hMb hb hk hv hr =>
  rw [run_convert_bytes_string w 45 9 5 (some ⟨b,off,none⟩) L.length cap Tryz.underlying45 Tryz.underlying5 Tryz.underlying9]
  have hload:(loadCells ⟨b,off,none⟩ L.length).run Tryz.prog w=.ok (l.map (Value.int .u8)).toArray w:=by
   have:=run_loadCells (P:=Tryz.prog) (w:=w) ⟨b,off,none⟩ L.length (fun j=>.int .u8 (l.getD j 0)) (fun j hj=>by
    have h1:=hv j 0 hj (by decide)
    have hj':j<l.length:=by omega
    have e1:L[j]=[.v (.int .u8 l[j])]:=by subst hL;rw [List.getElem_map]
    have h2:=hr j 0 hj (by rw [e1];exact Nat.zero_lt_one)
    have e2:L[j][0]'(by rw [e1];exact Nat.zero_lt_one)=.v (.int .u8 l[j]):=by simp only [e1];rfl
    rw [e2] at h2
    have h3:vs j 0=.int .u8 l[j]:=rep_v h2
    rw [h3] at h1
    rw [List.getD_eq_getElem?_getD,List.getElem?_eq_getElem hj',Option.getD_some]
    rw [Sx.add_plain]
    simpa using h1)
   rw [this]
   congr 1
   apply Array.ext'
   simp only []
   apply List.ext_getElem
   ·simp [hll]
   ·intro j h1 h2
    simp at h1 h2
    simp [List.getD_eq_getElem?_getD,List.getElem?_eq_getElem h2]
  rw [run_bytesToString w ⟨b,off,none⟩ L.length cap l hload,foldl_push]
  rfl
theorem zsv {l:List (List Sx.D)} {x:Int} {K:Value→Prop} (k:K (bstr [UInt8.ofNat x.toNat])) (e:l=[[.v (.int .u8 x)]]:=by rfl):∃ r,(r.oneCell'=true∧wfV r∧∀ w M v,Rep w M (.list 1 l) v→(convert 45 9 v).run Tryz.prog w=.ok r w)∧K r:=by
 subst e
 exact ⟨bstr [UInt8.ofNat x.toNat],⟨rfl,trivial,fun w M v h=>conv_bytes (l:=[x]) (by simp) h⟩,k⟩
theorem dec_step {m:Nat} (h:10≤m):decDigits m=decDigits (m / 10)++[UInt8.ofNat (48+m % 10)]:=by rw [decDigits,dif_neg (by omega)]
theorem dec_last {m:Nat} (h:m<10):decDigits m=[UInt8.ofNat (48+m)]:=by rw [decDigits,dif_pos h]
theorem byte_of {m:Nat}:IntKind.u8.wrap (IntKind.i64.wrap (48+(m:Int).tmod 10))=((48+m % 10:Nat):Int):=by
 have e:((m:Int).tmod 10)=((m % 10:Nat):Int):=by rw [Int.tmod_eq_emod_of_nonneg (by omega)];omega
 rw [e,IntWalk.i64_in _ (by omega),IntKind.wrap_u8]
 omega
theorem chr_of {m:Nat}:UInt8.ofNat (IntKind.u8.wrap (IntKind.i64.wrap (48+(m:Int).tmod 10))).toNat=UInt8.ofNat (48+m % 10):=by rw [byte_of];rfl
theorem quo10 {m:Nat} (h:m≤9223372036854775807):IntKind.i64.wrap ((m:Int).tdiv 10)=((m / 10:Nat):Int):=by
 rw [Int.tdiv_eq_ediv_of_nonneg (by omega),IntWalk.i64_in _ (by omega)];omega
theorem rcDecimal_pos (u:Nat) (hu:u≤9223372036854775807):FnOK Tryz.prog 37 [.one (i64 (u:Nat))] (.c (.one (str (decDigits u)))):=by
 have c0:=@chr_of u
 have q0:=@quo10 u hu
 have hlen:∀ m:Nat,m≤9223372036854775807→(decDigits m).length≤19:=fun m h=>by rw [decDigits_length];exact nDig_19 h
 have hl:=hlen u hu
 refine fn_ok (by kernel_rfl) ty_ok Tryz.func37 rfl (fun _ _=>Tryz.call37 _ _) rfl ?_
 intro hw
 clear hw
 repeat' ((conv=>whnf);first|(with_reducible first|refine br_t ?_|refine br_f ?_|refine za ?_|refine zg ?_)|refine zsv ?_|refine zsl ?_|refine zsg ?_|refine zss ?_|refine zs1 ?_|refine zse ?_|refine zsn ?_|refine zsc ?_|(with_reducible first|refine zpa ?_|refine zqa ?_)|refine zp ?_|refine zq ?_|(with_reducible first|refine bc (fun h => ?_) (fun h => ?_)|refine zt ?_|refine zf ?_|refine br_i (fun h => ?_) (fun h => ?_))|refine zg ?_|refine zi ?_|refine zb ?_)
 refine loop_J (by kernel_rfl) ty_ok (σ:=Nat × Str) (fun q=>[(0,sV (.int .i64 (q.1:Nat))),(3,sD (str q.2))]) (fun _=>[]) (fun q=>q.1≤9223372036854775807∧(if q.1=0 then [] else decDigits q.1)++q.2=decDigits u) (fun q=>q.1) (u / 10,[UInt8.ofNat (48+u % 10)]) ?_ ?_ ?_
 ·refine ⟨by simp only;omega,?_⟩
  simp only
  by_cases h:u<10
  ·rw [if_pos (by omega),dec_last h,Nat.mod_eq_of_lt h];rfl
  ·rw [if_neg (by omega),← dec_step (by omega)]
 ·simp only
  rw [← q0,← c0]
  (conv=>whnf);exact zent
 ·rintro ⟨m,S⟩ ⟨hm,hS⟩
  simp only at hm hS ⊢
  have b1:=@chr_of m
  have q1:=@quo10 m hm
  by_cases h0:m=0
  ·subst h0
   rw [if_pos rfl,List.nil_append] at hS
   subst hS
   repeat' ((conv=>whnf);first|(with_reducible first|refine br_t ?_|refine br_f ?_|refine za ?_|refine zg ?_)|refine zsv ?_|refine zsl ?_|refine zsg ?_|refine zss ?_|refine zs1 ?_|refine zse ?_|refine zsn ?_|refine zsc ?_|(with_reducible first|refine zpa ?_|refine zqa ?_)|refine zp ?_|refine zq ?_|(with_reducible first|refine bc (fun h => ?_) (fun h => ?_)|refine zt ?_|refine zf ?_|refine br_i (fun h => ?_) (fun h => ?_))|refine zg ?_|refine zi ?_|refine zb ?_)
   all_goals conv=>whnf
   all_goals rfl
  ·rw [if_neg h0] at hS
   have hlS:S.length≤19:=by
    have:(decDigits m++S).length≤19:=by rw [hS];exact hl
    rw [List.length_append] at this;omega
   repeat' ((conv=>whnf);first|(with_reducible first|refine br_t ?_|refine br_f ?_|refine za ?_|refine zg ?_)|refine zsv ?_|refine zsl ?_|refine zsg ?_|refine zss ?_|refine zs1 ?_|refine zse ?_|refine zsn ?_|refine zsc ?_|(with_reducible first|refine zpa ?_|refine zqa ?_)|refine zp ?_|refine zq ?_|(with_reducible first|refine bc (fun h => ?_) (fun h => ?_)|refine zt ?_|refine zf ?_|refine br_i (fun h => ?_) (fun h => ?_))|refine zg ?_|refine zi ?_|refine zb ?_)
   all_goals conv=>whnf
   refine ⟨(m / 10,[UInt8.ofNat (48+m % 10)]++S),⟨by simp only;omega,?_⟩,?_,by simp only;omega⟩
   ·simp only
    rw [← hS]
    by_cases h:m<10
    ·rw [if_pos (by omega),dec_last h,Nat.mod_eq_of_lt h];rfl
    ·rw [if_neg (by omega),dec_step (m:=m) (by omega),List.append_assoc]
   ·simp only
    rw [← q1,← b1]
    (conv=>whnf);exact zent
theorem rcDecimal_fn (n:Int) (h:fitI n):FnOK Tryz.prog 37 [.one (i64 n)] (.c (.one (str (itoa n)))):=by
 obtain ⟨h1,h2⟩:=h
 rcases Int.lt_or_le n 0 with h0|h0
 ·obtain ⟨k,hk,rfl⟩:∃ k:Nat,0<k∧n = -(k:Int):=⟨n.natAbs,by omega,by omega⟩
  rw [itoa_neg hk]
  have H:=rcDecimal_pos k (by omega)
  have hl:(decDigits k).length≤19:=by rw [decDigits_length];exact nDig_19 (by omega)
  have e:IntKind.i64.wrap (0 - -(k:Int))=(k:Int):=by rw [IntWalk.i64_in _ (by omega)];omega
  rw [← e] at H
  refine fn_ok (by kernel_rfl) ty_ok Tryz.func37 rfl (fun _ _=>Tryz.call37 _ _) rfl ?_
  intro hw
  clear hw
  repeat' ((conv=>whnf);first|(with_reducible first|refine br_t ?_|refine br_f ?_|refine za ?_|refine zg ?_)|refine zsl ?_|refine zsg ?_|refine zss ?_|refine zs1 ?_|refine zse ?_|refine zsn ?_|refine zsc ?_|(with_reducible first|refine zpa ?_|refine zqa ?_)|refine zp ?_|refine zq ?_|(with_reducible first|refine bc (fun h => ?_) (fun h => ?_)|refine zt ?_|refine zf ?_|refine br_i (fun h => ?_) (fun h => ?_))|refine zg ?_|refine zi ?_|refine zb ?_)
  all_goals conv=>whnf
  all_goals rfl
 ·obtain ⟨k,rfl⟩:∃ k:Nat,n=(k:Int):=⟨n.toNat,by omega⟩
  rw [itoa_pos]
  exact rcDecimal_pos k (by omega)
end Go.Proofs.YtfkfficabeclcaaGreatDoor

namespace Go.Proofs.YtfkfficabeclcaaGreatDoor
open Go Go.RowKit Go.Sort Sx
open Go.Lib hiding intOf
abbrev retWr (x:Int × Bool):DV:=.tup [.one (i64 x.1),.one (bol x.2)]
theorem wholeR_short {s:Str} (h:(tl0 s).length<1∨19<(tl0 s).length):wholeR s=(0,false):=if_pos h
theorem wholeR_none {s:Str} (h:¬ ((tl0 s).length<1∨19<(tl0 s).length)) (e:decFrom 0 (tl0 s)=none):wholeR s=(0,false):=by unfold wholeR;rw [if_neg h,e]
theorem wholeR_big {s:Str} {n:Nat} (h:¬ ((tl0 s).length<1∨19<(tl0 s).length)) (e:decFrom 0 (tl0 s)=some n) (k:9223372036854775807<n):wholeR s=(0,false):=by unfold wholeR;rw [if_neg h,e];exact if_pos k
theorem wholeR_some {s:Str} {n:Nat} (h:¬ ((tl0 s).length<1∨19<(tl0 s).length)) (e:decFrom 0 (tl0 s)=some n) (k:¬ 9223372036854775807<n):wholeR s=(if (tl0 s).length<s.length then -(n:Int) else n,decide (itoa (if (tl0 s).length<s.length then -(n:Int) else n)=s)):=by unfold wholeR;rw [if_neg h,e];exact if_neg k
theorem dec_byte {b:UInt8} {d:Nat} (h:digitVal b=some d):d≤9∧48≤b.toNat∧b.toNat≤57∧IntKind.u8.wrap ((b.toNat:Int)-48)=(d:Int):=by
 have h1:=digit_some h
 rw [IntKind.wrap_u8]
 omega
theorem pow_le19 {i:Nat} (h:i≤19):10 ^ i≤10000000000000000000:=by
 have:10 ^ i≤10 ^ 19:=Nat.pow_le_pow_right (by decide) h
 simpa using this
theorem tl0_other {b:UInt8} {r:Str} (h:¬ b=45):tl0 (b::r)=b::r:=by
 unfold tl0
 split
 ·rename_i e;injection e with e _;exact absurd e h
 ·rfl
theorem rcWhole_fn (s:Str) (hs:s.length≤1000000):FnOK Tryz.prog 114 [.one (str s)] (retWr (wholeR s)):=by
 cases s with
 | nil =>
  rw [wholeR_short (.inl (by decide))]
  refine fn_ok (by kernel_rfl) ty_ok Tryz.func114 rfl (fun _ _=>Tryz.call114 _ _) rfl ?_
  intro hw
  clear hw
  repeat' ((conv=>whnf);first|(with_reducible first|refine br_t ?_|refine br_f ?_|refine za ?_|refine zg ?_)|refine zsl ?_|refine zsg ?_|refine zss ?_|refine zs1 ?_|refine zse ?_|refine zsn ?_|refine zsc ?_|(with_reducible first|refine zpa ?_|refine zqa ?_)|refine zp ?_|refine zq ?_|(with_reducible first|refine bc (fun h => ?_) (fun h => ?_)|refine zt ?_|refine zf ?_|refine br_i (fun h => ?_) (fun h => ?_))|refine zg ?_|refine zi ?_|refine zb ?_)
  all_goals conv=>whnf
  all_goals rfl
 | cons b r =>
  have g0:(b::r)[(0:Int).toNat]? = some b:=rfl
  have hln:(b::r).length=r.length+1:=rfl
  by_cases hb:b=45
  ·have ht:tl0 (b::r)=r:=by subst hb;rfl
   have hbt:(b.toNat:Int)=45:=by subst hb;rfl
   have hl0:(List.drop (Int.toNat 1) (b::r)).length=r.length:=rfl
   by_cases hsh:r.length<1∨19<r.length
   ·rw [wholeR_short (by rw [ht];exact hsh)]
    refine fn_ok (by kernel_rfl) ty_ok Tryz.func114 rfl (fun _ _=>Tryz.call114 _ _) rfl ?_
    intro hw
    clear hw
    rcases hsh with hsh|hsh
    all_goals skip
    repeat' ((conv=>whnf);first|(with_reducible first|refine br_t ?_|refine br_f ?_|refine za ?_|refine zg ?_)|refine zsl ?_|refine zsg ?_|refine zss ?_|refine zs1 ?_|refine zse ?_|refine zsn ?_|refine zsc ?_|(with_reducible first|refine zpa ?_|refine zqa ?_)|refine zp ?_|refine zq ?_|(with_reducible first|refine bc (fun h => ?_) (fun h => ?_)|refine zt ?_|refine zf ?_|refine br_i (fun h => ?_) (fun h => ?_))|refine zg ?_|refine zi ?_|refine zb ?_)
    all_goals conv=>whnf
    all_goals rfl
   ·refine fn_ok (by kernel_rfl) ty_ok Tryz.func114 rfl (fun _ _=>Tryz.call114 _ _) rfl ?_
    intro hw
    clear hw
    have hd1:1≤r.length:=by omega
    have hd2:r.length≤19:=by omega
    repeat' ((conv=>whnf);first|(with_reducible first|refine br_t ?_|refine br_f ?_|refine za ?_|refine zg ?_)|refine zsl ?_|refine zsg ?_|refine zss ?_|refine zs1 ?_|refine zse ?_|refine zsn ?_|refine zsc ?_|(with_reducible first|refine zpa ?_|refine zqa ?_)|refine zp ?_|refine zq ?_|(with_reducible first|refine bc (fun h => ?_) (fun h => ?_)|refine zt ?_|refine zf ?_|refine br_i (fun h => ?_) (fun h => ?_))|refine zg ?_|refine zi ?_|refine zb ?_)
    refine loop_J (by kernel_rfl) ty_ok (σ:=Nat × Nat) (fun q=>[(6,sV (.int .i64 (q.1:Nat))),(5,sV (.int .u64 (q.2:Nat)))]) (fun _=>[]) (fun q=>q.1≤r.length∧q.2<10 ^ q.1∧decFrom q.2 (r.drop q.1)=decFrom 0 r) (fun q=>r.length-q.1) (0,0) ⟨Nat.zero_le _,by decide,rfl⟩ ?_ ?_
    ·(conv=>whnf);exact zent
    ·rintro ⟨i,n⟩ ⟨hi,hn,hR⟩
     simp only at hi hn hR ⊢
     have hp:=pow_le19 (i:=i) (by omega)
     by_cases hi1:i=r.length
     ·subst hi1
      rw [List.drop_length,decFrom] at hR
      by_cases hbig:9223372036854775807<n
      ·rw [wholeR_big (by rw [ht];exact hsh) (by rw [ht];exact hR.symm) hbig]
       clear hR hn hp
       repeat' ((conv=>whnf);first|(with_reducible first|refine br_t ?_|refine br_f ?_|refine za ?_|refine zg ?_)|refine zsl ?_|refine zsg ?_|refine zss ?_|refine zs1 ?_|refine zse ?_|refine zsn ?_|refine zsc ?_|(with_reducible first|refine zpa ?_|refine zqa ?_)|refine zp ?_|refine zq ?_|(with_reducible first|refine bc (fun h => ?_) (fun h => ?_)|refine zt ?_|refine zf ?_|refine br_i (fun h => ?_) (fun h => ?_))|refine zg ?_|refine zi ?_|refine zb ?_)
       all_goals conv=>whnf
       all_goals rfl
      ·rw [wholeR_some (by rw [ht];exact hsh) (by rw [ht];exact hR.symm) hbig,ht,if_pos (show r.length<(b::r).length by omega)]
       clear hR hn hp
       have ew:IntKind.i64.wrap (n:Int)=(n:Int):=IntWalk.i64_in _ (by omega)
       have ew2:IntKind.i64.wrap (0-IntKind.i64.wrap (n:Int)) = -(n:Int):=by rw [ew,IntWalk.i64_in _ (by omega)];omega
       have Hd:=rcDecimal_fn (IntKind.i64.wrap (0-IntKind.i64.wrap (n:Int))) ⟨by rw [ew2];omega,by rw [ew2];omega⟩
       rw [show retWr ((-(n:Int)),decide (itoa (-(n:Int))=b::r))=retWr (IntKind.i64.wrap (0-IntKind.i64.wrap (n:Int)),decide (itoa (IntKind.i64.wrap (0-IntKind.i64.wrap (n:Int)))=b::r)) by rw [ew2]]
       repeat' ((conv=>whnf);first|(with_reducible first|refine br_t ?_|refine br_f ?_|refine za ?_|refine zg ?_)|refine zsl ?_|refine zsg ?_|refine zss ?_|refine zs1 ?_|refine zse ?_|refine zsn ?_|refine zsc ?_|(with_reducible first|refine zpa ?_|refine zqa ?_)|refine zp ?_|refine zq ?_|(with_reducible first|refine bc (fun h => ?_) (fun h => ?_)|refine zt ?_|refine zf ?_|refine br_i (fun h => ?_) (fun h => ?_))|refine zg ?_|refine zi ?_|refine zb ?_)
       all_goals conv=>whnf
       all_goals rfl
     ·have hi2:i<r.length:=by omega
      obtain ⟨c,hc⟩:∃ c,r[i]? = some c:=⟨_,List.getElem?_eq_getElem hi2⟩
      have hg:r[(i:Int).toNat]? = some c:=by rw [Int.toNat_natCast];exact hc
      have hgr:(List.drop (Int.toNat 1) (b::r))[(i:Int).toNat]? = some c:=hg
      have hdr:r.drop i=c::r.drop (i+1):=by rw [List.drop_eq_getElem_cons hi2,(List.getElem?_eq_some_iff.1 hc).2]
      rw [hdr,decFrom] at hR
      cases hv:digitVal c with
      | none =>
       rw [hv] at hR
       rw [wholeR_none (by rw [ht];exact hsh) (by rw [ht];exact hR.symm)]
       have hno:=digit_no hv
       clear hR hn hp
       repeat' ((conv=>whnf);first|(with_reducible first|refine br_t ?_|refine br_f ?_|refine za ?_|refine zg ?_)|refine zsl ?_|refine zsg ?_|refine zss ?_|refine zs1 ?_|refine zse ?_|refine zsn ?_|refine zsc ?_|(with_reducible first|refine zpa ?_|refine zqa ?_)|refine zp ?_|refine zq ?_|(with_reducible first|refine bc (fun h => ?_) (fun h => ?_)|refine zt ?_|refine zf ?_|refine br_i (fun h => ?_) (fun h => ?_))|refine zg ?_|refine zi ?_|refine zb ?_)
       all_goals conv=>whnf
       all_goals rfl
      | some d =>
       rw [hv] at hR
       dsimp only at hR
       rw [Nat.mul_comm n 10] at hR
       obtain ⟨e1,e2,e3,e4⟩:=dec_byte hv
       have hp1:=pow_le19 (i:=i+1) (by omega)
       have hn1:10*n+d<10 ^ (i+1):=by rw [Nat.pow_succ];omega
       have ew:IntKind.u64.wrap (IntKind.u64.wrap (10*(n:Int))+IntKind.u64.wrap (IntKind.u8.wrap ((c.toNat:Int)-48)))=((10*n+d:Nat):Int):=by
        rw [e4,IntWalk.u64_in (10*(n:Int)) (by omega),IntWalk.u64_in (d:Int) (by omega),IntWalk.u64_in _ (by omega)];omega
       clear hp hn e4
       repeat' ((conv=>whnf);first|(with_reducible first|refine br_t ?_|refine br_f ?_|refine za ?_|refine zg ?_)|refine zsl ?_|refine zsg ?_|refine zss ?_|refine zs1 ?_|refine zse ?_|refine zsn ?_|refine zsc ?_|(with_reducible first|refine zpa ?_|refine zqa ?_)|refine zp ?_|refine zq ?_|(with_reducible first|refine bc (fun h => ?_) (fun h => ?_)|refine zt ?_|refine zf ?_|refine br_i (fun h => ?_) (fun h => ?_))|refine zg ?_|refine zi ?_|refine zb ?_)
       all_goals conv=>whnf
       refine ⟨(i+1,10*n+d),⟨by simp only;omega,hn1,hR⟩,?_,by simp only;omega⟩
       simp only
       rw [← ew]
       (conv=>whnf);exact zent
  ·have ht:tl0 (b::r)=(b::r):=tl0_other hb
   have hbt:(b.toNat:Int)≠45:=fun h=>hb (by apply UInt8.toNat_inj.1;show b.toNat=45;omega)
   skip
   by_cases hsh:(b::r).length<1∨19<(b::r).length
   ·rw [wholeR_short (by rw [ht];exact hsh)]
    refine fn_ok (by kernel_rfl) ty_ok Tryz.func114 rfl (fun _ _=>Tryz.call114 _ _) rfl ?_
    intro hw
    clear hw
    rcases hsh with hsh|hsh
    all_goals skip
    repeat' ((conv=>whnf);first|(with_reducible first|refine br_t ?_|refine br_f ?_|refine za ?_|refine zg ?_)|refine zsl ?_|refine zsg ?_|refine zss ?_|refine zs1 ?_|refine zse ?_|refine zsn ?_|refine zsc ?_|(with_reducible first|refine zpa ?_|refine zqa ?_)|refine zp ?_|refine zq ?_|(with_reducible first|refine bc (fun h => ?_) (fun h => ?_)|refine zt ?_|refine zf ?_|refine br_i (fun h => ?_) (fun h => ?_))|refine zg ?_|refine zi ?_|refine zb ?_)
    all_goals conv=>whnf
    all_goals rfl
   ·refine fn_ok (by kernel_rfl) ty_ok Tryz.func114 rfl (fun _ _=>Tryz.call114 _ _) rfl ?_
    intro hw
    clear hw
    have hd1:1≤(b::r).length:=by omega
    have hd2:(b::r).length≤19:=by omega
    repeat' ((conv=>whnf);first|(with_reducible first|refine br_t ?_|refine br_f ?_|refine za ?_|refine zg ?_)|refine zsl ?_|refine zsg ?_|refine zss ?_|refine zs1 ?_|refine zse ?_|refine zsn ?_|refine zsc ?_|(with_reducible first|refine zpa ?_|refine zqa ?_)|refine zp ?_|refine zq ?_|(with_reducible first|refine bc (fun h => ?_) (fun h => ?_)|refine zt ?_|refine zf ?_|refine br_i (fun h => ?_) (fun h => ?_))|refine zg ?_|refine zi ?_|refine zb ?_)
    refine loop_J (by kernel_rfl) ty_ok (σ:=Nat × Nat) (fun q=>[(6,sV (.int .i64 (q.1:Nat))),(5,sV (.int .u64 (q.2:Nat)))]) (fun _=>[]) (fun q=>q.1≤(b::r).length∧q.2<10 ^ q.1∧decFrom q.2 ((b::r).drop q.1)=decFrom 0 (b::r)) (fun q=>(b::r).length-q.1) (0,0) ⟨Nat.zero_le _,by decide,rfl⟩ ?_ ?_
    ·(conv=>whnf);exact zent
    ·rintro ⟨i,n⟩ ⟨hi,hn,hR⟩
     simp only at hi hn hR ⊢
     have hp:=pow_le19 (i:=i) (by omega)
     by_cases hi1:i=(b::r).length
     ·subst hi1
      rw [List.drop_length,decFrom] at hR
      by_cases hbig:9223372036854775807<n
      ·rw [wholeR_big (by rw [ht];exact hsh) (by rw [ht];exact hR.symm) hbig]
       clear hR hn hp
       repeat' ((conv=>whnf);first|(with_reducible first|refine br_t ?_|refine br_f ?_|refine za ?_|refine zg ?_)|refine zsl ?_|refine zsg ?_|refine zss ?_|refine zs1 ?_|refine zse ?_|refine zsn ?_|refine zsc ?_|(with_reducible first|refine zpa ?_|refine zqa ?_)|refine zp ?_|refine zq ?_|(with_reducible first|refine bc (fun h => ?_) (fun h => ?_)|refine zt ?_|refine zf ?_|refine br_i (fun h => ?_) (fun h => ?_))|refine zg ?_|refine zi ?_|refine zb ?_)
       all_goals conv=>whnf
       all_goals rfl
      ·rw [wholeR_some (by rw [ht];exact hsh) (by rw [ht];exact hR.symm) hbig,ht,if_neg (show ¬ (b::r).length<(b::r).length by omega)]
       clear hR hn hp
       have ew:IntKind.i64.wrap (n:Int)=(n:Int):=IntWalk.i64_in _ (by omega)
       have ew2:IntKind.i64.wrap (0-IntKind.i64.wrap (n:Int)) = -(n:Int):=by rw [ew,IntWalk.i64_in _ (by omega)];omega
       have Hd:=rcDecimal_fn (IntKind.i64.wrap (n:Int)) ⟨by rw [ew];omega,by rw [ew];omega⟩
       rw [show retWr ((n:Int),decide (itoa (n:Int)=b::r))=retWr (IntKind.i64.wrap (n:Int),decide (itoa (IntKind.i64.wrap (n:Int))=b::r)) by rw [ew]]
       repeat' ((conv=>whnf);first|(with_reducible first|refine br_t ?_|refine br_f ?_|refine za ?_|refine zg ?_)|refine zsl ?_|refine zsg ?_|refine zss ?_|refine zs1 ?_|refine zse ?_|refine zsn ?_|refine zsc ?_|(with_reducible first|refine zpa ?_|refine zqa ?_)|refine zp ?_|refine zq ?_|(with_reducible first|refine bc (fun h => ?_) (fun h => ?_)|refine zt ?_|refine zf ?_|refine br_i (fun h => ?_) (fun h => ?_))|refine zg ?_|refine zi ?_|refine zb ?_)
       all_goals conv=>whnf
       all_goals rfl
     ·have hi2:i<(b::r).length:=by omega
      obtain ⟨c,hc⟩:∃ c,(b::r)[i]? = some c:=⟨_,List.getElem?_eq_getElem hi2⟩
      have hg:(b::r)[(i:Int).toNat]? = some c:=by rw [Int.toNat_natCast];exact hc
      skip
      have hdr:(b::r).drop i=c::(b::r).drop (i+1):=by rw [List.drop_eq_getElem_cons hi2,(List.getElem?_eq_some_iff.1 hc).2]
      rw [hdr,decFrom] at hR
      cases hv:digitVal c with
      | none =>
       rw [hv] at hR
       rw [wholeR_none (by rw [ht];exact hsh) (by rw [ht];exact hR.symm)]
       have hno:=digit_no hv
       clear hR hn hp
       repeat' ((conv=>whnf);first|(with_reducible first|refine br_t ?_|refine br_f ?_|refine za ?_|refine zg ?_)|refine zsl ?_|refine zsg ?_|refine zss ?_|refine zs1 ?_|refine zse ?_|refine zsn ?_|refine zsc ?_|(with_reducible first|refine zpa ?_|refine zqa ?_)|refine zp ?_|refine zq ?_|(with_reducible first|refine bc (fun h => ?_) (fun h => ?_)|refine zt ?_|refine zf ?_|refine br_i (fun h => ?_) (fun h => ?_))|refine zg ?_|refine zi ?_|refine zb ?_)
       all_goals conv=>whnf
       all_goals rfl
      | some d =>
       rw [hv] at hR
       dsimp only at hR
       rw [Nat.mul_comm n 10] at hR
       obtain ⟨e1,e2,e3,e4⟩:=dec_byte hv
       have hp1:=pow_le19 (i:=i+1) (by omega)
       have hn1:10*n+d<10 ^ (i+1):=by rw [Nat.pow_succ];omega
       have ew:IntKind.u64.wrap (IntKind.u64.wrap (10*(n:Int))+IntKind.u64.wrap (IntKind.u8.wrap ((c.toNat:Int)-48)))=((10*n+d:Nat):Int):=by
        rw [e4,IntWalk.u64_in (10*(n:Int)) (by omega),IntWalk.u64_in (d:Int) (by omega),IntWalk.u64_in _ (by omega)];omega
       clear hp hn e4
       repeat' ((conv=>whnf);first|(with_reducible first|refine br_t ?_|refine br_f ?_|refine za ?_|refine zg ?_)|refine zsl ?_|refine zsg ?_|refine zss ?_|refine zs1 ?_|refine zse ?_|refine zsn ?_|refine zsc ?_|(with_reducible first|refine zpa ?_|refine zqa ?_)|refine zp ?_|refine zq ?_|(with_reducible first|refine bc (fun h => ?_) (fun h => ?_)|refine zt ?_|refine zf ?_|refine br_i (fun h => ?_) (fun h => ?_))|refine zg ?_|refine zi ?_|refine zb ?_)
       all_goals conv=>whnf
       refine ⟨(i+1,10*n+d),⟨by simp only;omega,hn1,hR⟩,?_,by simp only;omega⟩
       simp only
       rw [← ew]
       (conv=>whnf);exact zent
end Go.Proofs.YtfkfficabeclcaaGreatDoor

namespace Go.Proofs.YtfkfficabeclcaaGreatDoor
open Go Go.RowKit Go.Sort Sx
open Go.Lib hiding intOf
abbrev i64in (n:Int):Prop := -9223372036854775808≤n∧n≤9223372036854775807
theorem itoa_le {n:Int} (h:i64in n):(itoa n).length≤21:=by
 have hd:∀ (j u:Nat),u<10 ^ (j+1)→(decDigits u).length≤j+1:=by
  intro j u hu
  rw [decDigits_length]
  revert u
  induction j with
  | zero=>intro u hu;rw [nDigits_small (by simpa using hu)];exact Nat.le_refl _
  | succ j ih2 =>
   intro u hu
   by_cases h10:u<10
   ·rw [nDigits_small h10];omega
   ·rw [nDigits_big h10]
    have:=ih2 (u / 10) (by rw [Nat.pow_succ] at hu;omega)
    omega
 have e:(10:Nat) ^ (19+1)=100000000000000000000:=by decide
 obtain ⟨h1,h2⟩:=h
 unfold itoa
 split
 ·rw [List.length_cons];have:=hd 19 n.natAbs (by omega);omega
 ·have:=hd 19 n.toNat (by omega);omega
theorem wrtV_le {n d:Int} (h1:i64in n) (h2:i64in d):(wrtV n d).length≤43:=by
 have a:=itoa_le h1
 have b:=itoa_le h2
 unfold wrtV
 split
 ·omega
 ·simp only [List.length_append,List.length_cons];omega
theorem wdR1 {a b:Int} (h:WDCs [.agg [i64 a,i64 b]]):i64in a∧i64in b:=⟨wd_i64.1 h.1.1,wd_i64.1 h.1.2.1⟩
theorem cNumber_fn (n d:Int):FnOK Tryz.prog 36 [.agg [i64 n,i64 d]] (retS (numV n d)):=by
 have Hc:=check_fn n d
 unfold numV
 refine fn_ok (by kernel_rfl) ty_ok Tryz.func36 rfl (fun _ _=>Tryz.call36 _ _) rfl ?_
 intro hw
 obtain ⟨h1,h2⟩:=wdR1 hw
 clear hw
 have l1:=itoa_le h1
 have l2:=itoa_le h2
 by_cases h:chk n d=0
 ·rw [if_pos h]
  rw [h] at Hc
  unfold wrtV
  by_cases h3:d=1
  ·rw [if_pos h3]
   subst h3
   repeat' ((conv=>whnf);first|(with_reducible first|refine br_t ?_|refine br_f ?_|refine za ?_|refine zg ?_)|refine za ?_ fmt_fn|refine zsl ?_|refine zsg ?_|refine zss ?_|refine zs1 ?_|refine zse ?_|refine zsn ?_|refine zsc ?_|(with_reducible first|refine zpa ?_|refine zqa ?_)|refine zp ?_|refine zq ?_|(with_reducible first|refine bc (fun h => ?_) (fun h => ?_)|refine zt ?_|refine zf ?_|refine br_i (fun h => ?_) (fun h => ?_))|refine zg ?_|refine zi ?_|refine zb ?_)
   all_goals conv=>whnf
   all_goals rfl
  ·rw [if_neg h3]
   repeat' ((conv=>whnf);first|(with_reducible first|refine br_t ?_|refine br_f ?_|refine za ?_|refine zg ?_)|refine za ?_ fmt_fn|refine zsl ?_|refine zsg ?_|refine zss ?_|refine zs1 ?_|refine zse ?_|refine zsn ?_|refine zsc ?_|(with_reducible first|refine zpa ?_|refine zqa ?_)|refine zp ?_|refine zq ?_|(with_reducible first|refine bc (fun h => ?_) (fun h => ?_)|refine zt ?_|refine zf ?_|refine br_i (fun h => ?_) (fun h => ?_))|refine zg ?_|refine zi ?_|refine zb ?_)
   all_goals conv=>whnf
   all_goals rfl
 ·rw [if_neg h]
  have h8:=(chk_08 n d).resolve_left h
  rw [h8] at Hc
  repeat' ((conv=>whnf);first|(with_reducible first|refine br_t ?_|refine br_f ?_|refine za ?_|refine zg ?_)|refine za ?_ fmt_fn|refine zsl ?_|refine zsg ?_|refine zss ?_|refine zs1 ?_|refine zse ?_|refine zsn ?_|refine zsc ?_|(with_reducible first|refine zpa ?_|refine zqa ?_)|refine zp ?_|refine zq ?_|(with_reducible first|refine bc (fun h => ?_) (fun h => ?_)|refine zt ?_|refine zf ?_|refine br_i (fun h => ?_) (fun h => ?_))|refine zg ?_|refine zi ?_|refine zb ?_)
  all_goals conv=>whnf
  all_goals rfl
abbrev retR3 (x:(Int × Int) × Int):DV:=.tup [.agg [i64 x.1.1,i64 x.1.2],.one (i64 x.2)]
theorem numV_no {n d:Int} (h:¬ chk n d=0):numV n d=([],8):=if_neg h
theorem numV_ok {n d:Int} (h:chk n d=0):numV n d=(wrtV n d,0):=if_pos h
theorem backV_yes {s:Str} {n d:Int} (h:chk n d=0) (e:wrtV n d=s):backV s n d=((n,d),0):=if_pos ⟨h,e⟩
theorem backV_ne {s:Str} {n d:Int} (e:¬ wrtV n d=s):backV s n d=((0,0),12):=if_neg fun h=>e h.2
theorem backV_nc {s:Str} {n d:Int} (e:¬ chk n d=0):backV s n d=((0,0),12):=if_neg fun h=>e h.1
theorem cReadNumber_fn (s:Str) (hs:s.length≤1000000):FnOK Tryz.prog 87 [.one (str s)] (retR3 (readV s)):=by
 have Hc:=@cut_fn s 47 (by omega)
 obtain ⟨k1,k2⟩:=cut1_len 47 s
 have Ha:=whole_fn (cut1 47 s).1 (by omega)
 have Hb:=whole_fn (cut1 47 s).2.1 (by omega)
 unfold readV
 generalize cut1 47 s=x at *
 obtain ⟨x1,x2,x3⟩:=x
 dsimp only at *
 generalize wholeV x1=p at *
 generalize wholeV x2=q at *
 obtain ⟨pn,pb⟩:=p
 obtain ⟨qn,qb⟩:=q
 dsimp only at *
 simp only [retWh] at Ha Hb
 cases x3
 ·simp only [Bool.false_eq_true,false_implies,and_true,if_false]
  have Hn:=cNumber_fn pn 1
  refine fn_ok (by kernel_rfl) ty_ok Tryz.func87 rfl (fun _ _=>Tryz.call87 _ _) rfl ?_
  intro hw
  clear hw
  cases pb
  ·simp only [Bool.false_eq_true,if_false]
   repeat' ((conv=>whnf);first|(with_reducible first|refine br_t ?_|refine br_f ?_|refine za ?_|refine zg ?_)|refine zsl ?_|refine zsg ?_|refine zss ?_|refine zs1 ?_|refine zse ?_|refine zsn ?_|refine zsc ?_|(with_reducible first|refine zpa ?_|refine zqa ?_)|refine zp ?_|refine zq ?_|(with_reducible first|refine bc (fun h => ?_) (fun h => ?_)|refine zt ?_|refine zf ?_|refine br_i (fun h => ?_) (fun h => ?_))|refine zg ?_|refine zi ?_|refine zb ?_)
   all_goals conv=>whnf
   all_goals first|rfl|contradiction
  ·simp only [if_true]
   by_cases h:chk pn 1=0
   ·rw [numV_ok h] at Hn
    simp only [retS] at Hn
    by_cases e:wrtV pn 1=s
    ·rw [backV_yes h e]
     repeat' ((conv=>whnf);first|(with_reducible first|refine br_t ?_|refine br_f ?_|refine za ?_|refine zg ?_)|refine zsl ?_|refine zsg ?_|refine zss ?_|refine zs1 ?_|refine zse ?_|refine zsn ?_|refine zsc ?_|(with_reducible first|refine zpa ?_|refine zqa ?_)|refine zp ?_|refine zq ?_|(with_reducible first|refine bc (fun h => ?_) (fun h => ?_)|refine zt ?_|refine zf ?_|refine br_i (fun h => ?_) (fun h => ?_))|refine zg ?_|refine zi ?_|refine zb ?_)
     all_goals conv=>whnf
     all_goals first|rfl|contradiction
    ·rw [backV_ne e]
     repeat' ((conv=>whnf);first|(with_reducible first|refine br_t ?_|refine br_f ?_|refine za ?_|refine zg ?_)|refine zsl ?_|refine zsg ?_|refine zss ?_|refine zs1 ?_|refine zse ?_|refine zsn ?_|refine zsc ?_|(with_reducible first|refine zpa ?_|refine zqa ?_)|refine zp ?_|refine zq ?_|(with_reducible first|refine bc (fun h => ?_) (fun h => ?_)|refine zt ?_|refine zf ?_|refine br_i (fun h => ?_) (fun h => ?_))|refine zg ?_|refine zi ?_|refine zb ?_)
     all_goals conv=>whnf
     all_goals first|rfl|contradiction
   ·rw [backV_nc h]
    rw [numV_no h] at Hn
    simp only [retS] at Hn
    repeat' ((conv=>whnf);first|(with_reducible first|refine br_t ?_|refine br_f ?_|refine za ?_|refine zg ?_)|refine zsl ?_|refine zsg ?_|refine zss ?_|refine zs1 ?_|refine zse ?_|refine zsn ?_|refine zsc ?_|(with_reducible first|refine zpa ?_|refine zqa ?_)|refine zp ?_|refine zq ?_|(with_reducible first|refine bc (fun h => ?_) (fun h => ?_)|refine zt ?_|refine zf ?_|refine br_i (fun h => ?_) (fun h => ?_))|refine zg ?_|refine zi ?_|refine zb ?_)
    all_goals conv=>whnf
    all_goals first|rfl|contradiction
 ·simp only [true_implies,if_true]
  have Hn:=cNumber_fn pn qn
  refine fn_ok (by kernel_rfl) ty_ok Tryz.func87 rfl (fun _ _=>Tryz.call87 _ _) rfl ?_
  intro hw
  clear hw
  cases pb
  ·simp only [Bool.false_eq_true,false_and,if_false]
   repeat' ((conv=>whnf);first|(with_reducible first|refine br_t ?_|refine br_f ?_|refine za ?_|refine zg ?_)|refine zsl ?_|refine zsg ?_|refine zss ?_|refine zs1 ?_|refine zse ?_|refine zsn ?_|refine zsc ?_|(with_reducible first|refine zpa ?_|refine zqa ?_)|refine zp ?_|refine zq ?_|(with_reducible first|refine bc (fun h => ?_) (fun h => ?_)|refine zt ?_|refine zf ?_|refine br_i (fun h => ?_) (fun h => ?_))|refine zg ?_|refine zi ?_|refine zb ?_)
   all_goals conv=>whnf
   all_goals first|rfl|contradiction
  ·cases qb
   ·simp only [Bool.false_eq_true,and_false,if_false]
    repeat' ((conv=>whnf);first|(with_reducible first|refine br_t ?_|refine br_f ?_|refine za ?_|refine zg ?_)|refine zsl ?_|refine zsg ?_|refine zss ?_|refine zs1 ?_|refine zse ?_|refine zsn ?_|refine zsc ?_|(with_reducible first|refine zpa ?_|refine zqa ?_)|refine zp ?_|refine zq ?_|(with_reducible first|refine bc (fun h => ?_) (fun h => ?_)|refine zt ?_|refine zf ?_|refine br_i (fun h => ?_) (fun h => ?_))|refine zg ?_|refine zi ?_|refine zb ?_)
    all_goals conv=>whnf
    all_goals first|rfl|contradiction
   ·simp only [and_self,if_true]
    by_cases h:chk pn qn=0
    ·rw [numV_ok h] at Hn
     simp only [retS] at Hn
     by_cases e:wrtV pn qn=s
     ·rw [backV_yes h e]
      repeat' ((conv=>whnf);first|(with_reducible first|refine br_t ?_|refine br_f ?_|refine za ?_|refine zg ?_)|refine zsl ?_|refine zsg ?_|refine zss ?_|refine zs1 ?_|refine zse ?_|refine zsn ?_|refine zsc ?_|(with_reducible first|refine zpa ?_|refine zqa ?_)|refine zp ?_|refine zq ?_|(with_reducible first|refine bc (fun h => ?_) (fun h => ?_)|refine zt ?_|refine zf ?_|refine br_i (fun h => ?_) (fun h => ?_))|refine zg ?_|refine zi ?_|refine zb ?_)
      all_goals conv=>whnf
      all_goals first|rfl|contradiction
     ·rw [backV_ne e]
      repeat' ((conv=>whnf);first|(with_reducible first|refine br_t ?_|refine br_f ?_|refine za ?_|refine zg ?_)|refine zsl ?_|refine zsg ?_|refine zss ?_|refine zs1 ?_|refine zse ?_|refine zsn ?_|refine zsc ?_|(with_reducible first|refine zpa ?_|refine zqa ?_)|refine zp ?_|refine zq ?_|(with_reducible first|refine bc (fun h => ?_) (fun h => ?_)|refine zt ?_|refine zf ?_|refine br_i (fun h => ?_) (fun h => ?_))|refine zg ?_|refine zi ?_|refine zb ?_)
      all_goals conv=>whnf
      all_goals first|rfl|contradiction
    ·rw [backV_nc h]
     rw [numV_no h] at Hn
     simp only [retS] at Hn
     repeat' ((conv=>whnf);first|(with_reducible first|refine br_t ?_|refine br_f ?_|refine za ?_|refine zg ?_)|refine zsl ?_|refine zsg ?_|refine zss ?_|refine zs1 ?_|refine zse ?_|refine zsn ?_|refine zsc ?_|(with_reducible first|refine zpa ?_|refine zqa ?_)|refine zp ?_|refine zq ?_|(with_reducible first|refine bc (fun h => ?_) (fun h => ?_)|refine zt ?_|refine zf ?_|refine br_i (fun h => ?_) (fun h => ?_))|refine zg ?_|refine zi ?_|refine zb ?_)
     all_goals conv=>whnf
     all_goals first|rfl|contradiction
end Go.Proofs.YtfkfficabeclcaaGreatDoor

namespace Go.Proofs.YtfkfficabeclcaaGreatDoor
open Go Go.RowKit Go.Sort Sx
open Go.Lib hiding intOf
theorem fit_in {n:Int} (h:fitI n):i64in n:=⟨by have:=h.1;omega,h.2⟩
theorem rcwritten_fn {n d:Int} (hn:fitI n) (hd:fitI d):FnOK Tryz.prog 115 [.agg [i64 n,i64 d]] (.c (.one (str (wrtV n d)))):=by
 have H1:=rcDecimal_fn n hn
 have H2:=rcDecimal_fn d hd
 have l1:=itoa_le (fit_in hn)
 have l2:=itoa_le (fit_in hd)
 unfold wrtV
 refine fn_ok (by kernel_rfl) ty_ok Tryz.func115 rfl (fun _ _=>Tryz.call115 _ _) rfl ?_
 intro hw
 clear hw
 by_cases h:d=1
 ·rw [if_pos h]
  repeat' ((conv=>whnf);first|(with_reducible first|refine br_t ?_|refine br_f ?_|refine za ?_|refine zg ?_)|refine zsl ?_|refine zsg ?_|refine zss ?_|refine zs1 ?_|refine zse ?_|refine zsn ?_|refine zsc ?_|(with_reducible first|refine zpa ?_|refine zqa ?_)|refine zp ?_|refine zq ?_|(with_reducible first|refine bc (fun h => ?_) (fun h => ?_)|refine zt ?_|refine zf ?_|refine br_i (fun h => ?_) (fun h => ?_))|refine zg ?_|refine zi ?_|refine zb ?_)
  all_goals conv=>whnf
  all_goals rfl
 ·rw [if_neg h,show itoa n++47::itoa d=(itoa n++[47])++itoa d by simp]
  repeat' ((conv=>whnf);first|(with_reducible first|refine br_t ?_|refine br_f ?_|refine za ?_|refine zg ?_)|refine zsl ?_|refine zsg ?_|refine zss ?_|refine zs1 ?_|refine zse ?_|refine zsn ?_|refine zsc ?_|(with_reducible first|refine zpa ?_|refine zqa ?_)|refine zp ?_|refine zq ?_|(with_reducible first|refine bc (fun h => ?_) (fun h => ?_)|refine zt ?_|refine zf ?_|refine br_i (fun h => ?_) (fun h => ?_))|refine zg ?_|refine zi ?_|refine zb ?_)
  all_goals conv=>whnf
  all_goals rfl
theorem rcNumber_fn (n d:Int):FnOK Tryz.prog 164 [.agg [i64 n,i64 d]] (retS (numV n d)):=by
 have Hc:=rcheck_fn n d
 refine fn_ok (by kernel_rfl) ty_ok Tryz.func164 rfl (fun _ _=>Tryz.call164 _ _) rfl ?_
 intro hw
 obtain ⟨h1,h2⟩:=wdR1 hw
 clear hw
 by_cases h:chk n d=0
 ·rw [numV_ok h]
  obtain ⟨f1,f2⟩:=chk_fit h h1 h2
  have Hw:=rcwritten_fn f1 f2
  rw [h] at Hc
  repeat' ((conv=>whnf);first|(with_reducible first|refine br_t ?_|refine br_f ?_|refine za ?_|refine zg ?_)|refine zsl ?_|refine zsg ?_|refine zss ?_|refine zs1 ?_|refine zse ?_|refine zsn ?_|refine zsc ?_|(with_reducible first|refine zpa ?_|refine zqa ?_)|refine zp ?_|refine zq ?_|(with_reducible first|refine bc (fun h => ?_) (fun h => ?_)|refine zt ?_|refine zf ?_|refine br_i (fun h => ?_) (fun h => ?_))|refine zg ?_|refine zi ?_|refine zb ?_)
  all_goals conv=>whnf
  all_goals rfl
 ·rw [numV_no h]
  have h8:=(chk_08 n d).resolve_left h
  rw [h8] at Hc
  repeat' ((conv=>whnf);first|(with_reducible first|refine br_t ?_|refine br_f ?_|refine za ?_|refine zg ?_)|refine zsl ?_|refine zsg ?_|refine zss ?_|refine zs1 ?_|refine zse ?_|refine zsn ?_|refine zsc ?_|(with_reducible first|refine zpa ?_|refine zqa ?_)|refine zp ?_|refine zq ?_|(with_reducible first|refine bc (fun h => ?_) (fun h => ?_)|refine zt ?_|refine zf ?_|refine br_i (fun h => ?_) (fun h => ?_))|refine zg ?_|refine zi ?_|refine zb ?_)
  all_goals conv=>whnf
  all_goals rfl
theorem cutP_no {s:Str} {i f:Nat} {b c:UInt8} (hb:s[i]? = some b) (hf:f≤i) (h:c ∉ (s.take i).drop f) (hne:b≠c):c ∉ (s.take (i+1)).drop f:=by
 obtain ⟨hlt,e⟩:=List.getElem?_eq_some_iff.1 hb
 rw [List.take_succ_eq_append_getElem hlt,List.drop_append_of_le_length (by rw [List.length_take];omega),e]
 intro k
 rcases List.mem_append.1 k with k|k
 ·exact h k
 ·exact hne (List.mem_singleton.1 k).symm
theorem cutP_at {s:Str} {i f:Nat} {c:UInt8} (hb:s[i]? = some c) (hf:f≤i) (h:c ∉ (s.take i).drop f):spl c (s.drop f)=(s.take i).drop f::spl c (s.drop (i+1)):=by
 obtain ⟨hlt,e⟩:=List.getElem?_eq_some_iff.1 hb
 have:s.drop f=(s.take i).drop f++c::s.drop (i+1):=by
  have h1:s=s.take i++c::s.drop (i+1):=by
   conv=>lhs;rw [← List.take_append_drop i s,List.drop_eq_getElem_cons hlt,e]
  conv=>lhs;rw [h1]
  rw [List.drop_append_of_le_length (by rw [List.length_take];omega)]
 rw [this,spl_at _ h]
theorem cutP_end {s:Str} {f:Nat} {c:UInt8} (h:c ∉ (s.take s.length).drop f):spl c (s.drop f)=[(s.take s.length).drop f]:=by
 rw [List.take_length] at h ⊢
 exact spl_no h
theorem rcCut_fn (s:Str) (c:UInt8) (hs:s.length≤100000):FnOK Tryz.prog 32 [.one (str s),.one (.v (.int .u8 (c.toNat:Int)))] (.c (.one (strs (spl c s)))):=by
 refine fn_ok (by kernel_rfl) (ty_okK [5,31] [] [] []) Tryz.func32 rfl (fun _ _=>Tryz.call32 _ _) rfl ?_
 intro hw
 clear hw
 repeat' ((conv=>whnf);first|(with_reducible first|refine br_t ?_|refine br_f ?_|refine za ?_|refine zg ?_|refine zo ?_)|refine zsl ?_|refine zsg ?_|refine zss ?_|refine zs1 ?_|refine zse ?_|refine zsn ?_|refine zsc ?_|(with_reducible first|refine zpa ?_|refine zqa ?_)|refine zp ?_|refine zq ?_|(with_reducible first|refine bc (fun h => ?_) (fun h => ?_)|refine zt ?_|refine zf ?_|refine br_i (fun h => ?_) (fun h => ?_))|refine zg ?_|refine zi ?_|refine zb ?_|refine zl ?_)
 refine loop_J (by kernel_rfl) (ty_okK [5,31] [] [] []) (σ:=Nat × Nat × List Str) (fun q=>[(7,sV (.int .i64 (q.1:Nat))),(6,sV (.int .i64 (q.2.1:Nat))),(5,.c (.at (.osl 5 0)))]) (fun q=>[(5,.row 1 (q.2.2.map fun s=>[str s]) 0)]) (fun q=>(q.1≤s.length∧q.2.1≤q.1∧c ∉ (s.take q.1).drop q.2.1∧q.2.2++spl c (s.drop q.2.1)=spl c s)∨(q.1=s.length+1∧q.2.1=s.length+1∧q.2.2=spl c s)) (fun q=>s.length+1-q.1) (0,0,[]) (.inl ⟨Nat.zero_le _,Nat.le_refl _,by simp,rfl⟩) ?_ ?_
 ·(conv=>whnf);exact zent
 ·rintro ⟨i,f,L⟩ hI
  simp only at hI ⊢
  rcases hI with ⟨hi,hf,hno,hL⟩|⟨rfl,rfl,rfl⟩
  ·have hpl:L.length≤100001:=by
    have h1:=spl_len c s
    have:(L++spl c (s.drop f)).length≤s.length+1:=by rw [hL];exact h1
    rw [List.length_append] at this
    omega
   by_cases hil:i=s.length
   ·subst hil
    repeat' ((conv=>whnf);first|(with_reducible first|refine br_t ?_|refine br_f ?_|refine za ?_|refine zg ?_|refine zo ?_)|refine zsl ?_|refine zsg ?_|refine zss ?_|refine zs1 ?_|refine zse ?_|refine zsn ?_|refine zsc ?_|(with_reducible first|refine zpa ?_|refine zqa ?_)|refine zp ?_|refine zq ?_|(with_reducible first|refine bc (fun h => ?_) (fun h => ?_)|refine zt ?_|refine zf ?_|refine br_i (fun h => ?_) (fun h => ?_))|refine zg ?_|refine zi ?_|refine zb ?_|refine zl ?_)
    all_goals conv=>whnf
    refine ⟨(s.length+1,s.length+1,L++[(s.take s.length).drop f]),.inr ⟨rfl,rfl,?_⟩,?_,by simp only;omega⟩
    ·simp only
     rw [← hL,cutP_end hno]
    ·simp only [List.map_append,List.map_cons,List.map_nil]
     have e1:IntKind.i64.wrap ((s.length:Int)+1)=((s.length+1:Nat):Int):=by rw [IntWalk.i64_in _ (by omega)];omega
     rw [← e1]
     (conv=>whnf);exact zent
   ·have hi2:i<s.length:=by omega
    obtain ⟨b,hb⟩:∃ b,s[i]? = some b:=⟨_,List.getElem?_eq_getElem hi2⟩
    have hg:s[(i:Int).toNat]? = some b:=by rw [Int.toNat_natCast];exact hb
    by_cases hbc:b=c
    ·subst hbc
     repeat' ((conv=>whnf);first|(with_reducible first|refine br_t ?_|refine br_f ?_|refine za ?_|refine zg ?_|refine zo ?_)|refine zsl ?_|refine zsg ?_|refine zss ?_|refine zs1 ?_|refine zse ?_|refine zsn ?_|refine zsc ?_|(with_reducible first|refine zpa ?_|refine zqa ?_)|refine zp ?_|refine zq ?_|(with_reducible first|refine bc (fun h => ?_) (fun h => ?_)|refine zt ?_|refine zf ?_|refine br_i (fun h => ?_) (fun h => ?_))|refine zg ?_|refine zi ?_|refine zb ?_|refine zl ?_)
     all_goals conv=>whnf
     have e1:IntKind.i64.wrap ((i:Int)+1)=((i+1:Nat):Int):=by rw [IntWalk.i64_in _ (by omega)];omega
     refine ⟨(i+1,i+1,L++[(s.take i).drop f]),.inl ⟨by simp only;omega,Nat.le_refl _,by simp,?_⟩,?_,by simp only;omega⟩
     ·simp only
      rw [← hL,cutP_at hb hf hno,List.append_assoc];rfl
     ·simp only [List.map_append,List.map_cons,List.map_nil]
      rw [← e1]
      (conv=>whnf);exact zent
    ·have hbn:(b.toNat:Int)≠(c.toNat:Int):=fun h=>hbc (UInt8.toNat_inj.1 (by omega))
     repeat' ((conv=>whnf);first|(with_reducible first|refine br_t ?_|refine br_f ?_|refine za ?_|refine zg ?_|refine zo ?_)|refine zsl ?_|refine zsg ?_|refine zss ?_|refine zs1 ?_|refine zse ?_|refine zsn ?_|refine zsc ?_|(with_reducible first|refine zpa ?_|refine zqa ?_)|refine zp ?_|refine zq ?_|(with_reducible first|refine bc (fun h => ?_) (fun h => ?_)|refine zt ?_|refine zf ?_|refine br_i (fun h => ?_) (fun h => ?_))|refine zg ?_|refine zi ?_|refine zb ?_|refine zl ?_)
     all_goals conv=>whnf
     have e1:IntKind.i64.wrap ((i:Int)+1)=((i+1:Nat):Int):=by rw [IntWalk.i64_in _ (by omega)];omega
     refine ⟨(i+1,f,L),.inl ⟨by simp only;omega,by simp only;omega,cutP_no hb hf hno hbc,hL⟩,?_,by simp only;omega⟩
     simp only
     rw [← e1]
     (conv=>whnf);exact zent
  ·repeat' ((conv=>whnf);first|(with_reducible first|refine br_t ?_|refine br_f ?_|refine za ?_|refine zg ?_|refine zo ?_)|refine zsl ?_|refine zsg ?_|refine zss ?_|refine zs1 ?_|refine zse ?_|refine zsn ?_|refine zsc ?_|(with_reducible first|refine zpa ?_|refine zqa ?_)|refine zp ?_|refine zq ?_|(with_reducible first|refine bc (fun h => ?_) (fun h => ?_)|refine zt ?_|refine zf ?_|refine br_i (fun h => ?_) (fun h => ?_))|refine zg ?_|refine zi ?_|refine zb ?_|refine zl ?_)
   all_goals conv=>whnf
   all_goals rfl
end Go.Proofs.YtfkfficabeclcaaGreatDoor

namespace Go.Proofs.YtfkfficabeclcaaGreatDoor
open Go Go.RowKit Go.Sort Sx
open Go.Lib hiding intOf
set_option maxRecDepth 2000
inductive Pp where
 | i (n:Int)
 | l (n:Int)
 | r (n d:Int)
def Pp.v:Pp→Value
 | .i n=>.iface 3 (.int .i64 n)
 | .l n=>.iface 2 (.int .i64 n)
 | .r n d=>.iface 25 (.agg #[.int .i64 n,.int .i64 d])
def Pp.s:Pp→Str
 | .i n=>itoa n
 | .l n=>itoa n
 | .r n d=>(numV n d).1
def Pp.ok:Pp→Prop
 | .i n=>in64 n
 | .l n=>in64 n
 | .r n d=>in64 n∧in64 d
theorem Pp.one (p:Pp):p.v.oneCell'=true:=by cases p<;>rfl
theorem joinS_C:∀ l:List Str,joinS l=joinC 32 l
 | []=>rfl
 | [a]=>rfl
 | a::b::l=>by
  show a++32::joinS (b::l)=_
  rw [joinS_C (b::l)];rfl
theorem tfraction_fn (n d:Int):FnOK Tryz.prog 78 [.agg [i64 n,i64 d]] (.c (.one (str (numV n d).1))):=by
 have H:=cNumber_fn n d
 generalize numV n d=x at *
 obtain ⟨x1,x2⟩:=x
 simp only [retS] at H
 refine fn_ok (by kernel_rfl) ty_ok Tryz.func78 rfl (fun _ _=>Tryz.call78 _ _) rfl ?_
 intro hw
 clear hw
 repeat' ((conv=>whnf);first|(with_reducible first|refine br_t ?_|refine br_f ?_|refine za ?_|refine zg ?_)|refine zsl ?_|refine zsg ?_|refine zss ?_|refine zs1 ?_|refine zse ?_|refine zsn ?_|refine zsc ?_|(with_reducible first|refine zpa ?_|refine zqa ?_)|refine zp ?_|refine zq ?_|(with_reducible first|refine bc (fun h => ?_) (fun h => ?_)|refine zt ?_|refine zf ?_|refine br_i (fun h => ?_) (fun h => ?_))|refine zg ?_|refine zi ?_|refine zb ?_)
 all_goals conv=>whnf
 all_goals rfl
theorem Pp.s_le {p:Pp} (h:p.ok):p.s.length≤50:=by
 cases p with
 | i n=>exact Nat.le_trans (itoa_le h) (by decide)
 | l n=>exact Nat.le_trans (itoa_le h) (by decide)
 | r n d =>
  show (numV n d).1.length≤50
  unfold numV
  split
  ·exact Nat.le_trans (wrtV_le h.1 h.2) (by decide)
  ·exact Nat.zero_le _
theorem rep_ownStr {W:World} {n0:Nat} {v:Value} {l:List Str} {M:Nat→Prop} (h:W.ownsRow n0 9 1 v l.length (l.map bstr)) (hM:∀ b,M b→b<n0):Rep W M (strs l) v:=by
 rcases h.2 with ⟨rfl,h0⟩|⟨g,cap,cur,rfl,hb,hgb,h1,h2,h3,h4⟩
 ·have:l=[]:=List.eq_nil_of_length_eq_zero h0
  subst this
  exact .nil 1 none 0 (by decide) (fun _=>rfl)
 ·have hl:(l.map fun s=>[str s]).length=l.length:=List.length_map ..
  have hD:∀ (l:List Str),DsR W M (l.map fun s=>[str s]).flatten (l.map bstr):=by
   intro l
   induction l with
   | nil=>trivial
   | cons p l ih =>
    rw [List.map_cons,List.flatten_cons,List.map_cons]
    show DsR W M (str p::_) (bstr p::_)
    exact ⟨.v _ rfl trivial,ih⟩
  have:=rep_of_row (M:=M) (b:=g) (off:=0) (cap:=cap) (k:=1) (l:=l.map fun s=>[str s]) (fun x hx=>by obtain ⟨p,_,rfl⟩:=List.mem_map.1 hx;rfl) (hD l) (fun i hi=>by
   rw [Nat.zero_add]
   simp only [World.cell?,hgb]
   rw [← h4] at hi ⊢
   rw [List.length_take] at hi
   rw [List.getElem?_take_of_lt (by omega)]
   simp) (by rw [hl];exact h1) (by unfold maxLen at h2;omega) (fun h=>by have:=hM g h;omega) (Array.getElem?_eq_some_iff.1 hgb).1
  rw [hl] at this
  exact this
theorem rep_anys {w:World} {M:Nat→Prop} {l:List Pp} {v:Value} (h:Rep w M (.list 1 (l.map fun p=>[.v p.v])) v):∃ a c,v=.slice a l.length c∧∀ i (hi:i<l.length),∃ b off,a=some ⟨b,off,none⟩∧b<w.heap.size∧w.cell? ⟨b,off+i,none⟩=some l[i].v:=by
 obtain ⟨L,hL⟩:∃ L:List (List Sx.D),L=l.map fun p=>[.v p.v]:=⟨_,rfl⟩
 have hll:L.length=l.length:=by rw [hL,List.length_map]
 have h':Rep w M (.list 1 L) v:=by rw [hL];exact h
 clear h
 cases h' with
 | nil k x c hm hx =>
  refine ⟨x,c,by rw [← hll];rfl,fun i hi => ?_⟩
  rw [← hll] at hi;exact absurd hi (Nat.not_lt_zero _)
 | @list b off cap k L vs hc hm hMb hb hk hv hr =>
  refine ⟨_,cap,by rw [hll],fun i hi=>⟨b,off,rfl,hb,?_⟩⟩
  have hi':i<L.length:=by omega
  have e1:L[i]=[.v l[i].v]:=by subst hL;rw [List.getElem_map]
  have h1:=hv i 0 hi' (by decide)
  have h2:=hr i 0 hi' (by rw [e1];exact Nat.zero_lt_one)
  have e2:L[i][0]'(by rw [e1];exact Nat.zero_lt_one)=.v l[i].v:=by simp only [e1];rfl
  rw [e2] at h2
  have h3:vs i 0=l[i].v:=by
   generalize vs i 0=u at h2
   cases h2;rfl
  rw [h3,Nat.mul_one,Nat.add_zero] at h1
  exact h1
theorem join_len (c:UInt8):∀ (l:List Str),(∀ x∈l,x.length≤100)→(joinC c l).length≤l.length*101
 | [],_=>Nat.zero_le _
 | [a],h=>by have:=h a (by simp);show a.length≤_;simp;omega
 | a::b::l,h=>by
  have h1:=h a (by simp)
  have h2:=join_len c (b::l) fun x hx=>h x (List.mem_cons_of_mem _ hx)
  show (a++c::joinC c (b::l)).length≤_
  simp only [List.length_append,List.length_cons] at h2 ⊢
  omega
theorem ta_yes {t:TypeId} {td:TypeDesc} (ht:Tryz.prog.underlying t=some td) (hn:∀ x,td≠.interface x) (v:Value) (s:TypeId) (w:World):(Instr.typeAssert (.iface t v) s t true).run Tryz.prog w=.ok (.tuple #[v,.bool true]) w:=by
 unfold Instr.typeAssert
 rw [Sem.run_bind,run_underlying ht]
 cases td<;>first|exact absurd rfl (hn _)|(simp [go_sem])
theorem ta_no {t a:TypeId} {td:TypeDesc} {z:Value} (ht:Tryz.prog.underlying a=some td) (hn:∀ x,td≠.interface x) (hz:∀ w,(zeroValue a).run Tryz.prog w=.ok z w) (hne:t≠a) (v:Value) (s:TypeId) (w:World):(Instr.typeAssert (.iface t v) s a true).run Tryz.prog w=.ok (.tuple #[z,.bool false]) w:=by
 unfold Instr.typeAssert
 rw [Sem.run_bind,run_underlying ht]
 cases td<;>first|exact absurd rfl (hn _)|(simp [go_sem,hne,hz])
end Go.Proofs.YtfkfficabeclcaaGreatDoor
