import Derived.Test.YtfkfficabeclcaaGreatDoorGLTNamesAU
import Derived.Test.YtfkfficabeclcaaGreatDoorGLTNamesAT
import Derived.Test.YtfkfficabeclcaaGreatDoorGLTNamesAO
import Derived.Test.YtfkfficabeclcaaGreatDoorGLTNamesAQ
import Derived.Lib.ParseIntBTie
import Derived.Lib.AtoiErrMem
set_option linter.all false
namespace Go.Proofs.YtfkfficabeclcaaGreatDoor
open Go.RowKit Go.Sort Sx Go.Lib
def wTime:Str:=[116,105,109,101]
def wPts:Str:=[32,112,111,105,110,116,115]
def wClst:Str:=[99,108,111,115,101,115,116]
def wNext:Str:=[110,101,120,116]
def wClst0:Str:=[99,108,111,115,101,115,116,32,110,111,110,101]
def wNext0:Str:=[110,101,120,116,32,110,111,110,101]
def rowB (n d:Int) (k:Nat) (p:Pt):Str:=joinS [itoa ((k+1:Nat):Int),itoa p.id,(numV (plc p n d).1 (plc p n d).2).1,itoa p.b]
def rowsK (n d:Int) (L:List Pt):Nat→List Str
 | 0=>[]
 | k+1=>rowsK n d L k++(match L[k]? with|some p=>[rowB n d k p]|none=>[])
def headB (m:Md):Str:=joinS [wTime,(numV m.n m.d).1]++joinS [wPts,itoa (m.l.length:Int)]
def clsB (m:Md):Str:=if m.l.length<2 then wClst0 else joinS [wClst,itoa (closV m.l m.n m.d).1,itoa (closV m.l m.n m.d).2.1,(numV (closV m.l m.n m.d).2.2.1 (closV m.l m.n m.d).2.2.2.1).1]
def nxtB (m:Md):Str:=if (nxtV m.l m.n m.d).2=0 then joinS (wNext::mWords (nxtV m.l m.n m.d).1) else wNext0
def linesV (m:Md):List Str:=headB m::rowsK m.n m.d (srt m.n m.d m.l) m.l.length++[clsB m,nxtB m]
def nlS (l:List Str):Str:=l.flatMap fun s=>s++[10]
def stT (m:Md):Str:=nlS (linesV m)
def standV (m:Md):Str × Int:=if mchk m=0 then (stT m,0) else ([],mchk m)
theorem nlS_join:∀ {l:List Str},l≠[]→nlS l=joinC 10 l++[10]
 | [],h=>absurd rfl h
 | [a],_=>by simp [nlS,joinC]
 | a::b::l,_=>by
  have ih:=nlS_join (l:=b::l) (by simp)
  show a++[10]++nlS (b::l)=(a++10::joinC 10 (b::l))++[10]
  rw [ih]
  simp
theorem nlS_app (a b:List Str):nlS (a++b)=nlS a++nlS b:=by unfold nlS;rw [List.flatMap_append]
theorem rowsK_succ {n d:Int} {L:List Pt} {k:Nat} (h:k<L.length):rowsK n d L (k+1)=rowsK n d L k++[rowB n d k L[k]]:=by
 rw [rowsK,List.getElem?_eq_getElem h]
theorem rowsK_len (n d:Int) (L:List Pt):∀ k,k≤L.length→(rowsK n d L k).length=k
 | 0,_=>rfl
 | k+1,h=>by rw [rowsK_succ (by omega),List.length_append,rowsK_len n d L k (by omega)];rfl
theorem posP_mem {l:List Pt} {p:Pt} (hs:incr l=true) (hp:p∈l):has l p.id=true∧∃ h:pos l p.id<l.length,l[pos l p.id]=p:=by
 obtain ⟨k,hk,rfl⟩:=List.getElem_of_mem hp
 obtain ⟨s1,s2⟩:=pos_spec (id:=l[k].id) hs
 have h1:¬ pos l l[k].id<k:=fun h=>by
  have hlt:pos l l[k].id<l.length:=by omega
  have:=s2 _ hlt (Nat.le_refl _)
  have:=incr_lt hs _ _ hk h
  omega
 have h2:¬ k<pos l l[k].id:=fun h=>by have:=s1 k hk h;omega
 have e:pos l l[k].id=k:=by omega
 have e2:∃ h:pos l l[k].id<l.length,l[pos l l[k].id]=l[k]:=⟨by omega,by congr 1⟩
 obtain ⟨h3,h4⟩:=e2
 exact ⟨(has_pos hs).2 ⟨h3,by rw [h4]⟩,h3,h4⟩
theorem findV_mem {l:List Pt} {p:Pt} (h:fchk l=0) (hp:p∈l):findV l p.id=(p,0):=by
 obtain ⟨_,_,hs⟩:=fchk_ok h
 obtain ⟨h1,h2,h3⟩:=posP_mem hs hp
 unfold findV
 rw [if_pos h,if_pos h1,List.getElem?_eq_getElem h2,h3]
 rfl
end Go.Proofs.YtfkfficabeclcaaGreatDoor

namespace Go.Proofs.YtfkfficabeclcaaGreatDoor
open Go.RowKit Go.Sort Sx Go.Lib
def plcV (id:Int) (x:Int × Int) (v n d:Int):Option Pt :=
 if (mulV v 1 n d).2.2=0 then
  (if (subV x.1 x.2 (mulV v 1 n d).1 (mulV v 1 n d).2.1).2.2=0∧(subV x.1 x.2 (mulV v 1 n d).1 (mulV v 1 n d).2.1).2.1=1∧cpt id (subV x.1 x.2 (mulV v 1 n d).1 (mulV v 1 n d).2.1).1 v=0 then some ⟨id,(subV x.1 x.2 (mulV v 1 n d).1 (mulV v 1 n d).2.1).1,v⟩ else none)
 else none
def pcdP (n d:Int):List Str→Option Pt
 | [a,b,c,e]=>match atoV a,atoV b,frV c,atoV e with
  | some _,some id,some x,some v=>plcV id x v n d
  | _,_,_,_=>none
 | _=>none
def rdRws (f:List Str→Option Pt):List Str→Option (List Pt)
 | []=>some []
 | a::l=>match f (spl 32 a) with
  | some p=>(rdRws f l).map fun r=>p::r
  | none=>none
def idS (l:List Pt):List Pt:=l.mergeSort fun a b=>decide (a.id≤b.id)
theorem idS_perm (l:List Pt):(idS l).Perm l:=List.mergeSort_perm _ _
theorem idS_sorted (l:List Pt):(idS l).Pairwise fun a b=>a.id≤b.id:=by
 have h:=List.pairwise_mergeSort (le:=fun (a b:Pt)=>decide (a.id≤b.id)) (fun a b c h1 h2=>by simp only [decide_eq_true_eq] at *;omega) (fun a b=>by simp only [Bool.or_eq_true,decide_eq_true_eq];omega) l
 exact h.imp fun h=>of_decide_eq_true h
theorem incr_pair {l:List Pt} (h:incr l=true):l.Pairwise fun a b=>a.id≤b.id :=
 List.pairwise_iff_getElem.2 fun i j hi hj hij=>by have:=incr_lt h j i hj hij;omega
theorem apart_perm {l l':List Pt} (h:apart l) (hp:l'.Perm l):apart l':=fun p hp' q hq e=>h p (hp.mem_iff.1 hp') q (hp.mem_iff.1 hq) e
theorem idS_one {l l':List Pt} (hp:l'.Perm l) (hs:l'.Pairwise fun a b=>a.id≤b.id) (ha:apart l):l'=idS l:=by
 refine List.Perm.eq_of_pairwise (le:=fun a b:Pt=>a.id≤b.id) (fun a b h1 h2 h3 h4 => ?_) hs (idS_sorted l) (hp.trans (idS_perm l).symm)
 exact ha a (hp.mem_iff.1 h1) b ((idS_perm l).mem_iff.1 h2) (by omega)
theorem backS_apart {n d:Int} {l l':List Pt} (hp:l'.Perm l) (h:mchk ⟨n,d,l'⟩=0):apart l :=
 apart_perm (incr_apart (fchk_ok (mchk_ok h).2).2.2) hp.symm
def backS (s:Str) (r:Option (Int × Int × List Pt)):Md × Int:=match r with
 | some r=>if mchk ⟨r.1,r.2.1,idS r.2.2⟩=0∧stT ⟨r.1,r.2.1,idS r.2.2⟩=s then (⟨r.1,r.2.1,idS r.2.2⟩,0) else (⟨0,0,[]⟩,12)
 | none=>(⟨0,0,[]⟩,12)
theorem backS_any {s:Str} {n d:Int} {l l':List Pt} (hp:l'.Perm l) (hs:l'.Pairwise fun a b=>a.id≤b.id) :
  backS s (some (n,d,l))=if mchk ⟨n,d,l'⟩=0∧stT ⟨n,d,l'⟩=s then (⟨n,d,l'⟩,0) else (⟨0,0,[]⟩,12):=by
 unfold backS
 dsimp only
 by_cases ha:apart l
 ·rw [idS_one hp hs ha]
 ·rw [if_neg (fun h=>ha (backS_apart (idS_perm l) h.1)),if_neg (fun h=>ha (backS_apart hp h.1))]
def srdG (rd:Str→Option (Int × Int)) (f:Int→Int→List Str→Option Pt) (s:Str):Option (Int × Int × List Pt) :=
 if (spl 10 s).length<4∨68<(spl 10 s).length∨(spl 32 ((spl 10 s).headD [])).length≠4 then none
 else match rd ((spl 32 ((spl 10 s).headD [])).getD 1 []) with
  | some q=>(rdRws (f q.1 q.2) (((spl 10 s).take ((spl 10 s).length-3)).drop 1)).map fun l=>(q.1,q.2,l)
  | none=>none
def srdP (s:Str):Md × Int:=backS s (srdG frV pcdP s)
def sreadP (s:Str):Md × Int:=if 110000<s.length then (⟨0,0,[]⟩,4) else srdP s
theorem backS_ok {s:Str} {m:Option (Int × Int × List Pt)} (h:(backS s m).2=0):mchk (backS s m).1=0∧stT (backS s m).1=s:=by
 unfold backS at h ⊢
 cases m with
 | none=>cases h
 | some m =>
  dsimp only at h ⊢
  split at h
  ·rename_i c;rw [if_pos c];exact c
  ·cases h
theorem backS_no {s:Str} {m:Option (Int × Int × List Pt)} (h:(backS s m).2≠0):backS s m=(⟨0,0,[]⟩,12):=by
 unfold backS at h ⊢
 cases m with
 | none=>rfl
 | some m =>
  dsimp only at h ⊢
  split at h
  ·exact absurd rfl h
  ·rename_i c;rw [if_neg c]
theorem num_no10 (n d:Int):(10:UInt8) ∉ (numV n d).1:=by
 unfold numV wrtV
 intro h
 split at h
 ·dsimp only at h
  split at h
  ·exact itoa_no10 _ h
  ·rcases List.mem_append.1 h with h|h
   ·exact itoa_no10 _ h
   ·rcases List.mem_cons.1 h with h|h
    ·exact absurd h (by decide)
    ·exact itoa_no10 _ h
 ·cases h
theorem joinS_no {c:UInt8} (hc:c≠32):∀ {l:List Str},(∀ x∈l,c ∉ x)→c ∉ joinS l
 | [],_=>by intro h;cases h
 | [a],h=>h a (List.mem_cons_self ..)
 | a::b::l,h=>by
  show c ∉ a++32::joinS (b::l)
  intro hm
  rcases List.mem_append.1 hm with hm|hm
  ·exact h a (List.mem_cons_self ..) hm
  ·rcases List.mem_cons.1 hm with hm|hm
   ·exact hc hm
   ·exact joinS_no hc (fun x hx=>h x (List.mem_cons_of_mem _ hx)) hm
theorem rowB_words (n d:Int) (k:Nat) (p:Pt) {c:UInt8} (h:∀ m,c ∉ itoa m) (h2:∀ a b,c ∉ (numV a b).1):∀ x∈[itoa ((k+1:Nat):Int),itoa p.id,(numV (plc p n d).1 (plc p n d).2).1,itoa p.b],c ∉ x:=by
 intro x hx
 simp only [List.mem_cons,List.not_mem_nil,or_false] at hx
 rcases hx with rfl|rfl|rfl|rfl
 ·exact h _
 ·exact h _
 ·exact h2 _ _
 ·exact h _
theorem rowsK_no (n d:Int) (L:List Pt):∀ k,∀ x∈rowsK n d L k,(10:UInt8) ∉ x
 | 0,x,hx=>by cases hx
 | k+1,x,hx=>by
  rw [rowsK] at hx
  rcases List.mem_append.1 hx with hx|hx
  ·exact rowsK_no n d L k x hx
  ·split at hx
   ·obtain rfl:=List.mem_singleton.1 hx
    exact joinS_no (by decide) (rowB_words n d k _ itoa_no10 num_no10)
   ·cases hx
theorem two_no {w a:Str} {c:UInt8} (hc:c≠32) (h1:c ∉ w) (h2:c ∉ a):c ∉ joinS [w,a]:=joinS_no hc fun x hx=>by
 simp only [List.mem_cons,List.not_mem_nil,or_false] at hx
 rcases hx with rfl|rfl<;>assumption
theorem headB_no (m:Md):(10:UInt8) ∉ headB m:=fun h=>by
 unfold headB at h
 rcases List.mem_append.1 h with h|h
 ·exact two_no (by decide) (by decide) (num_no10 _ _) h
 ·exact two_no (by decide) (by decide) (itoa_no10 _) h
theorem mWords_no (m:Mt):∀ x∈mWords m,(10:UInt8) ∉ x:=fun x hx=>by
 unfold mWords at hx
 simp only [List.mem_cons,List.not_mem_nil,or_false] at hx
 rcases hx with rfl|rfl|rfl
 ·exact num_no10 _ _
 ·exact itoa_no10 _
 ·exact itoa_no10 _
theorem clsB_no (m:Md):(10:UInt8) ∉ clsB m:=by
 unfold clsB
 split
 ·decide
 ·refine joinS_no (by decide) fun x hx => ?_
  simp only [List.mem_cons,List.not_mem_nil,or_false] at hx
  rcases hx with rfl|rfl|rfl|rfl
  ·decide
  ·exact itoa_no10 _
  ·exact itoa_no10 _
  ·exact num_no10 _ _
theorem nxtB_no (m:Md):(10:UInt8) ∉ nxtB m:=by
 unfold nxtB
 split
 ·refine joinS_no (by decide) fun x hx => ?_
  rcases List.mem_cons.1 hx with rfl|hx
  ·decide
  ·exact mWords_no _ x hx
 ·decide
theorem linesV_no (m:Md):∀ x∈linesV m,(10:UInt8) ∉ x:=fun x hx=>by
 unfold linesV at hx
 rcases List.mem_append.1 hx with hx|hx
 ·rcases List.mem_cons.1 hx with rfl|hx
  ·exact headB_no m
  ·exact rowsK_no _ _ _ _ x hx
 ·simp only [List.mem_cons,List.not_mem_nil,or_false] at hx
  rcases hx with rfl|rfl
  ·exact clsB_no m
  ·exact nxtB_no m
theorem linesV_len (m:Md):(linesV m).length=m.l.length+3:=by
 unfold linesV
 rw [List.length_append,List.length_cons,rowsK_len _ _ _ _ (by rw [srt_len];exact Nat.le_refl _)]
 rfl
theorem spl_stT (m:Md):spl 10 (stT m)=linesV m++[[]]:=spl_end (linesV_no m)
theorem spl_head (m:Md):spl 32 (headB m)=[wTime,(numV m.n m.d).1,[112,111,105,110,116,115],itoa (m.l.length:Int)]:=by
 have e:headB m=wTime++32::((numV m.n m.d).1++32::([112,111,105,110,116,115]++32::itoa (m.l.length:Int))):=by
  unfold headB
  show (wTime++32::(numV m.n m.d).1)++(wPts++32::itoa _)=_
  simp [wPts]
 rw [e,spl_at _ (by decide),spl_at _ (num_no32 _ _),spl_at _ (by decide),spl_no (itoa_no32 _)]
theorem spl_row (n d:Int) (k:Nat) (p:Pt):spl 32 (rowB n d k p)=[itoa ((k+1:Nat):Int),itoa p.id,(numV (plc p n d).1 (plc p n d).2).1,itoa p.b] :=
 spl_join (by simp) (rowB_words n d k p itoa_no32 num_no32)
theorem plcV_of {p:Pt} {n d:Int} (hp:p.chk=0) (ht:askd n d=0):plcV p.id (plc p n d) p.b n d=some p:=by
 obtain ⟨t1,t2,t3,t4,t5⟩:=askd_ok ht
 have c:=p.chk_ok hp
 obtain ⟨_,x1,x2,x3,x4,x5,x6⟩:=plc_ok hp ht
 have hb1:chk p.b 1=0:=(chk_iff _ _).2 ⟨by omega,by omega,Nat.coprime_one_right _⟩
 have hbn:=prod_in2 p.b n 1048576 1073741824 (by omega) (by omega) (by omega) (by omega)
 obtain ⟨y1,y2,e1,e2,e3,e4,e5,e6⟩:=outQ_sm (n:=p.b*n) (d:=1*d) (by omega) (by omega) (by omega) (by omega)
 have hm:mulV p.b 1 n d=(y1,y2,0):=by rw [mulV_q hb1 t1,qv_mul (by omega) t4,e1]
 have hs:subV (plc p n d).1 (plc p n d).2 y1 y2=(p.a,1,0):=by
  rw [subV_q x1 e2 (by omega),x2,e3,qv_sub t4 (by omega),Int.one_mul]
  have hq:qv ((p.a*d+p.b*n)*d-p.b*n*d) (d*d)=qv p.a 1:=by
   have hdd:1≤d*d:=by have:=Int.mul_le_mul t4 t4 (by omega) (by omega);simpa using this
   rw [qv_eq hdd (by omega),Int.add_mul,Int.mul_one,Int.add_sub_cancel,Int.mul_assoc]
  rw [hq]
  obtain ⟨z1,z2,f1,f2,f3,f4,f5,f6⟩:=outQ_sm (n:=p.a) (d:=1) (by omega) (by omega) (by omega) (by omega)
  obtain rfl:z2=1:=by omega
  rw [f1]
  have:=(qv_eq (n:=z1) (m:=p.a) (d:=1) (e:=1) (by omega) (by omega)).1 f3
  obtain rfl:z1=p.a:=by omega
  rfl
 unfold plcV
 rw [hm]
 dsimp only
 rw [hs]
 rw [if_pos rfl,if_pos ⟨rfl,rfl,hp⟩]
theorem plc_fit {p:Pt} {n d:Int} (hp:p.chk=0) (ht:askd n d=0):fit2 (plc p n d).1 (plc p n d).2:=by
 obtain ⟨_,x1,x2,x3,x4,x5,x6⟩:=plc_ok hp ht
 unfold fit2 fitI
 omega
theorem rdRws_of {f:List Str→Option Pt} {n d:Int} {L:List Pt} (hf:∀ k,(h:k<L.length)→f [itoa ((k+1:Nat):Int),itoa L[k].id,(numV (plc L[k] n d).1 (plc L[k] n d).2).1,itoa L[k].b]=some L[k]):∀ k,k≤L.length→rdRws f (rowsK n d L k)=some (L.take k)
 | 0,_=>by rw [List.take_zero];rfl
 | k+1,h=>by
  have ih:=rdRws_of hf k (by omega)
  have key:∀ (A:List Str) (R:List Pt) (x:Str) (p:Pt),rdRws f A=some R→f (spl 32 x)=some p→rdRws f (A++[x])=some (R++[p]):=by
   intro A
   induction A with
   | nil =>
    intro R x p h1 h2
    rw [rdRws] at h1
    injection h1 with h1
    subst h1
    rw [List.nil_append,rdRws,h2]
    rfl
   | cons a A ihA =>
    intro R x p h1 h2
    rw [rdRws] at h1
    rw [List.cons_append,rdRws]
    cases h3:f (spl 32 a) with
    | none=>rw [h3] at h1;cases h1
    | some q =>
     rw [h3] at h1
     dsimp only at h1 ⊢
     cases h4:rdRws f A with
     | none=>rw [h4] at h1;cases h1
     | some R' =>
      rw [h4] at h1
      injection h1 with h1
      subst h1
      rw [ihA R' x p h4 h2]
      rfl
  rw [rowsK_succ (by omega),List.take_succ_eq_append_getElem (by omega)]
  exact key _ _ _ _ ih (by rw [spl_row];exact hf k (by omega))
theorem srdG_of {rd:Str→Option (Int × Int)} {f:Int→Int→List Str→Option Pt} {m:Md} (hm:mchk m=0) (h1:rd (numV m.n m.d).1=some (m.n,m.d))
  (hf:∀ p:Pt,p.chk=0→∀ k:Nat,k<64→f m.n m.d [itoa ((k+1:Nat):Int),itoa p.id,(numV (plc p m.n m.d).1 (plc p m.n m.d).2).1,itoa p.b]=some p):srdG rd f (stT m)=some (m.n,m.d,srt m.n m.d m.l):=by
 obtain ⟨g1,g2⟩:=mchk_ok hm
 obtain ⟨k1,k2,k3⟩:=fchk_ok g2
 have hl:=linesV_len m
 have hsl:(srt m.n m.d m.l).length=m.l.length:=srt_len ..
 unfold srdG
 rw [spl_stT]
 have hh:(linesV m++[[]]).headD []=headB m:=rfl
 have hlen:(linesV m++[[]]).length=m.l.length+4:=by rw [List.length_append,hl];rfl
 rw [hh,hlen,spl_head,if_neg (by simp only [List.length_cons,List.length_nil];omega)]
 simp only [List.getD_cons_succ,List.getD_cons_zero]
 rw [h1]
 dsimp only
 have ht:((linesV m++[[]]).take (m.l.length+4-3)).drop 1=rowsK m.n m.d (srt m.n m.d m.l) m.l.length:=by
  have hr:=rowsK_len m.n m.d (srt m.n m.d m.l) m.l.length (by omega)
  have e:linesV m++[[]]=(headB m::rowsK m.n m.d (srt m.n m.d m.l) m.l.length)++[clsB m,nxtB m,[]]:=by unfold linesV;rw [List.append_assoc];rfl
  rw [e,List.take_append_of_le_length (by rw [List.length_cons,hr];omega),List.take_of_length_le (by rw [List.length_cons,hr];omega)]
  rfl
 rw [ht,rdRws_of (L:=srt m.n m.d m.l) (fun k hk=>hf _ (k2 _ ((srt_perm m.n m.d m.l).mem_iff.1 (List.getElem_mem hk))) k (by omega)) m.l.length (by omega),← hsl,List.take_length]
 rfl
theorem backS_of {m:Md} (hm:mchk m=0):backS (stT m) (some (m.n,m.d,srt m.n m.d m.l))=(m,0):=by
 obtain ⟨k1,k2,k3⟩:=fchk_ok (mchk_ok hm).2
 rw [backS_any (l':=m.l) (srt_perm m.n m.d m.l).symm (incr_pair k3),if_pos ⟨hm,rfl⟩]
theorem pcdP_of {p:Pt} {n d:Int} (hp:p.chk=0) (ht:askd n d=0) (k:Nat) (hk:k<64):pcdP n d [itoa ((k+1:Nat):Int),itoa p.id,(numV (plc p n d).1 (plc p n d).2).1,itoa p.b]=some p:=by
 have c:=p.chk_ok hp
 obtain ⟨_,x1,_⟩:=plc_ok hp ht
 show (match atoV (itoa ((k+1:Nat):Int)),atoV (itoa p.id),frV (numV (plc p n d).1 (plc p n d).2).1,atoV (itoa p.b) with
  | some _,some id,some x,some v=>plcV id x v n d
  | _,_,_,_=>none)=_
 rw [atoV_id (n:=((k+1:Nat):Int)) (by omega) (by omega),atoV_id c.1 c.2.1,frV_of x1 (plc_fit hp ht),atoV_itoa (by rw [show (10:Nat) ^ 17=100000000000000000 by decide];omega)]
 exact plcV_of hp ht
theorem now_fit {n d:Int} (ht:askd n d=0):fit2 n d:=by
 have:=askd_ok ht
 unfold fit2 fitI
 omega
theorem srdP_is:Reads stT (fun m=>mchk m=0) ⟨0,0,[]⟩ srdP:=by
 refine ⟨fun s h=>backS_ok h,fun s h=>backS_no h,fun m hm => ?_⟩
 obtain ⟨g1,g2⟩:=mchk_ok hm
 unfold srdP
 rw [srdG_of hm (frV_of (askd_ok g1).1 (now_fit g1)) fun p hp k hk=>pcdP_of hp g1 k hk]
 exact backS_of hm
end Go.Proofs.YtfkfficabeclcaaGreatDoor

namespace Go.Proofs.YtfkfficabeclcaaGreatDoor
open Go Go.RowKit Go.Sort Sx
open Go.Lib hiding intOf
set_option maxRecDepth 2000
abbrev retRb (x:Rp) (b:Bool):DV:=.tup [x.dc,.one (bol b)]
abbrev retRp (x:Rp × Int):DV:=.tup [x.1.dc,.one (i64 x.2)]
theorem br_cases (r:Rp) (s:Str):(rchk r=0∧rText r=s∧backR s (some r)=(r,0))∨(rchk r=0∧rText r≠s∧backR s (some r)=(rp0,12))∨(rchk r=8∧backR s (some r)=(rp0,12)):=by
 rcases rchk_08 r with h|h
 ·by_cases e:rText r=s
  ·exact .inl ⟨h,e,backR_of h e⟩
  ·exact .inr (.inl ⟨h,e,by unfold backR;dsimp only;rw [if_neg fun k=>e k.2]⟩)
 ·exact .inr (.inr ⟨h,by unfold backR;dsimp only;rw [if_neg fun k=>by omega]⟩)
end Go.Proofs.YtfkfficabeclcaaGreatDoor

namespace Go.Proofs.YtfkfficabeclcaaGreatDoor
open Go Go.RowKit Go.Sort Sx
open Go.Lib hiding intOf
set_option maxRecDepth 2000
structure PsO (L0:List Pt) (i:Nat) (L:List Pt):Prop where
 p:L.Perm L0
 o:∀ a b (h:a<b) (hb:b<L.length),b<i→¬ L[b].id<L[a].id
structure PsI (L0:List Pt) (i k:Nat) (L:List Pt):Prop where
 p:L.Perm L0
 hk:k≤i
 hi:i<L.length
 o:∀ a b (h:a<b) (hb:b<L.length),b≤i→b≠k→¬ L[b].id<L[a].id
def pswp (L:List Pt) (k:Nat) (h:k<L.length):List Pt:=(L.set k L[k-1]).set (k-1) L[k]
theorem pswp_len {L:List Pt} {k:Nat} (h:k<L.length):(pswp L k h).length=L.length:=by simp [pswp]
theorem pswp_get {L:List Pt} {k:Nat} (h:k<L.length) (h0:0<k) {b:Nat} (hb:b<(pswp L k h).length) :
  (pswp L k h)[b]=if b=k-1 then L[k] else if b=k then L[k-1] else L[b]'(by rw [pswp_len] at hb;exact hb):=by
 simp only [pswp,List.getElem_set,eq_comm (b:=b)]
theorem pswap_at {x y:Pt} {l r:List Pt}:(l++y::x::r).Perm (l++x::y::r):=List.Perm.append_left l (List.Perm.swap ..)
theorem pswp_perm {L:List Pt} {k:Nat} (h:k<L.length) (h0:0<k):(pswp L k h).Perm L:=by
 obtain ⟨j,rfl⟩:∃ j,k=j+1:=⟨k-1,by omega⟩
 have e1:L=L.take j++L[j]::L[j+1]::L.drop (j+2):=by
  rw [← List.drop_eq_getElem_cons h,← List.drop_eq_getElem_cons (by omega),List.take_append_drop]
 have e2:pswp L (j+1) h=L.take j++L[j+1]::L[j]::L.drop (j+2):=by
  refine List.ext_getElem (by rw [pswp_len];simp;omega) fun b h1 h2 => ?_
  rw [pswp_get h h0]
  rw [pswp_len] at h1
  simp only [Nat.add_sub_cancel]
  rcases Nat.lt_trichotomy b j with c|c|c
  ·rw [if_neg (by omega),if_neg (by omega),List.getElem_append_left (by simp;omega),List.getElem_take]
  ·subst c
   have hm:min b L.length=b:=Nat.min_eq_left (by omega)
   rw [if_pos rfl,List.getElem_append_right (by rw [List.length_take];omega)]
   simp only [List.length_take,hm,Nat.sub_self,List.getElem_cons_zero]
  ·rw [if_neg (by omega),List.getElem_append_right (by simp;omega)]
   by_cases c1:b=j+1
   ·subst c1
    have key:∀ q,q=1→∀ (hq:q<(L[j+1]::L[j]::List.drop (j+2) L).length),(L[j+1]::L[j]::List.drop (j+2) L)[q]=L[j]:=by rintro _ rfl _;rfl
    rw [if_pos rfl]
    exact (key _ (by rw [List.length_take];omega) _).symm
   ·obtain ⟨d,rfl⟩:∃ d,b=j+(d+2):=⟨b-j-2,by omega⟩
    rw [if_neg c1]
    simp only [List.length_take,Nat.min_eq_left (show j≤L.length by omega),Nat.add_sub_cancel_left,List.getElem_cons_succ,List.getElem_drop]
    exact getElem_congr rfl (by omega) _
 rw [e2]
 conv=>rhs;rw [e1]
 exact pswap_at
theorem PsI.start {L0 L:List Pt} {i:Nat} (H:PsO L0 i L) (h:i<L.length):PsI L0 i i L:=⟨H.p,Nat.le_refl _,h,fun a b h hb h1 h2=>H.o a b h hb (by omega)⟩
theorem PsI.next {L0 L:List Pt} {i k:Nat} (H:PsI L0 i k L) (h0:0<k) (hl:(L[k]'(Nat.lt_of_le_of_lt H.hk H.hi)).id<(L[k-1]'(by have:=H.hk;have:=H.hi;omega)).id):PsI L0 i (k-1) (pswp L k (Nat.lt_of_le_of_lt H.hk H.hi)):=by
 have hk:=H.hk
 have hi:=H.hi
 refine ⟨(List.Perm.trans ?_ H.p),by omega,by rw [pswp_len];exact hi,fun a b h hb h1 h2 => ?_⟩
 ·exact pswp_perm _ h0
 ·have hb':=hb
  rw [pswp_len] at hb'
  rw [pswp_get _ h0,pswp_get _ h0]
  rw [if_neg h2]
  by_cases c1:b=k
  ·rw [if_pos c1]
   by_cases c2:a=k-1
   ·rw [if_pos c2];omega
   ·rw [if_neg c2,if_neg (by omega)]
    exact H.o a (k-1) (by omega) (by omega) (by omega) (by omega)
  ·rw [if_neg c1]
   by_cases c2:a=k-1
   ·rw [if_pos c2]
    exact H.o k b (by omega) hb' h1 c1
   ·rw [if_neg c2]
    by_cases c3:a=k
    ·rw [if_pos c3]
     exact H.o (k-1) b (by omega) hb' h1 c1
    ·rw [if_neg c3]
     exact H.o a b h hb' h1 c1
end Go.Proofs.YtfkfficabeclcaaGreatDoor

namespace Go.Proofs.YtfkfficabeclcaaGreatDoor
open Go.RowKit Go.Sort Sx Go.Lib
theorem itoa_21 {n:Int} (h1 : -1000000000000000≤n) (h2:n≤1000000000000000):(itoa n).length≤21:=itoa_le ⟨by omega,by omega⟩
theorem rowB_len {n d:Int} {k:Nat} {p:Pt} (hp:p.chk=0) (ht:askd n d=0) (hk:k<64):(rowB n d k p).length≤109:=by
 have c:=Pt.chk_ok hp
 obtain ⟨_,x1,_,x3,x4,x5,x6⟩:=plc_ok hp ht
 have h1:=itoa_21 (n:=((k+1:Nat):Int)) (by omega) (by omega)
 have h2:=itoa_21 (n:=p.id) (by omega) (by omega)
 have h3:=itoa_21 (n:=p.b) (by omega) (by omega)
 have h4:=numV_len (n:=(plc p n d).1) (d:=(plc p n d).2) ⟨by omega,by omega⟩ ⟨by omega,by omega⟩
 unfold rowB
 simp only [joinS,List.length_append,List.length_cons]
 omega
theorem rowsK_bytes {n d:Int} {L:List Pt} (hL:∀ p∈L,p.chk=0) (ht:askd n d=0) (hl:L.length≤64):∀ k,k≤L.length→(nlS (rowsK n d L k)).length≤110*k
 | 0,_=>Nat.le_refl _
 | k+1,h=>by
  have ih:=rowsK_bytes hL ht hl k (by omega)
  have h1:=rowB_len (k:=k) (hL _ (List.getElem_mem (show k<L.length by omega))) ht (by omega)
  rw [rowsK_succ (by omega),nlS_app,List.length_append]
  have:(nlS [rowB n d k L[k]]).length=(rowB n d k L[k]).length+1:=by simp [nlS]
  omega
theorem headB_len {m:Md} (ht:askd m.n m.d=0) (hl:m.l.length≤64):(headB m).length≤77:=by
 have c:=askd_ok ht
 have h1:=numV_len (n:=m.n) (d:=m.d) ⟨by omega,by omega⟩ ⟨by omega,by omega⟩
 have h2:=itoa_21 (n:=(m.l.length:Int)) (by omega) (by omega)
 unfold headB
 simp only [joinS,List.length_append,List.length_cons,wTime,wPts,List.length_nil]
 omega
theorem clsB_len {m:Md} (hm:mchk m=0):(clsB m).length≤95:=by
 obtain ⟨g1,g2⟩:=mchk_ok hm
 obtain ⟨k1,k2,k3⟩:=fchk_ok g2
 unfold clsB
 split
 ·simp [wClst0]
 ·rename_i h
  obtain ⟨p1,p2,p3,p4,p5,p6,p7⟩:=pairC_ok k2 g1 (show 2≤m.l.length by omega)
  have i1:=Pt.chk_ok (k2 _ (List.getElem_mem p6))
  have i2:=Pt.chk_ok (k2 _ (List.getElem_mem p7))
  have e:closV m.l m.n m.d=(m.l[(pairC m.l m.n m.d).1].id,m.l[(pairC m.l m.n m.d).2.1].id,(pairC m.l m.n m.d).2.2.1,(pairC m.l m.n m.d).2.2.2,0):=by
   unfold closV
   rw [if_pos g2,if_pos g1,if_neg h,List.getElem?_eq_getElem p6,List.getElem?_eq_getElem p7]
   rfl
  rw [e]
  have h1:=itoa_21 (n:=m.l[(pairC m.l m.n m.d).1].id) (by omega) (by omega)
  have h2:=itoa_21 (n:=m.l[(pairC m.l m.n m.d).2.1].id) (by omega) (by omega)
  have h4:=numV_len (n:=(pairC m.l m.n m.d).2.2.1) (d:=(pairC m.l m.n m.d).2.2.2) ⟨by omega,by omega⟩ ⟨by omega,by omega⟩
  simp only [joinS,List.length_append,List.length_cons,wClst,List.length_nil]
  omega
theorem nxt_in {m:Md} (hm:mchk m=0) (h:(nxtV m.l m.n m.d).2=0):(nxtV m.l m.n m.d).1.ok∧0≤(nxtV m.l m.n m.d).1.i∧(nxtV m.l m.n m.d).1.i<(nxtV m.l m.n m.d).1.j∧(nxtV m.l m.n m.d).1.j≤65535:=by
 obtain ⟨g1,g2⟩:=mchk_ok hm
 obtain ⟨k1,k2,k3⟩:=fchk_ok g2
 unfold nxtV at h ⊢
 split at h
 ·rename_i hlt
  rw [dif_pos hlt]
  have hmem:=msrt_mem.1 (List.getElem_mem hlt)
  refine ⟨(outs_ok g2 _ hmem).1,?_⟩
  obtain ⟨⟨p,q⟩,h1,h2⟩:=List.mem_filterMap.1 hmem
  obtain ⟨hp,hq⟩:=pairs_mem h1
  have hlt:=pairs_lt k3 h1
  have cp:=cpt_ok (k2 p hp)
  have cq:=cpt_ok (k2 q hq)
  unfold meet1 at h2
  dsimp only at h2
  split at h2
  ·injection h2 with h2
   rw [← h2]
   exact ⟨by show 0≤p.id;omega,hlt,by show q.id≤_;omega⟩
  ·cases h2
 ·cases h
theorem nxtB_len {m:Md} (hm:mchk m=0):(nxtB m).length≤92:=by
 unfold nxtB
 split
 ·rename_i h
  obtain ⟨⟨o1,o2,o3,_⟩,n1,n2,n3⟩:=nxt_in hm h
  have c:=(chk_iff _ _).1 o1
  have h1:=itoa_21 (n:=(nxtV m.l m.n m.d).1.i) (by omega) (by omega)
  have h2:=itoa_21 (n:=(nxtV m.l m.n m.d).1.j) (by omega) (by omega)
  have h4:=numV_len (n:=(nxtV m.l m.n m.d).1.n) (d:=(nxtV m.l m.n m.d).1.d) o2 ⟨by omega,by omega⟩
  simp only [mWords,joinS,List.length_append,List.length_cons,wNext,List.length_nil]
  omega
 ·simp [wNext0]
theorem nlS_cons (a:Str) (l:List Str):nlS (a::l)=a++10::nlS l:=by unfold nlS;rw [List.flatMap_cons,List.append_assoc];rfl
theorem stT_parts (m:Md):stT m=headB m++10::(nlS (rowsK m.n m.d (srt m.n m.d m.l) m.l.length)++(clsB m++10::(nxtB m++[10]))):=by
 unfold stT linesV
 rw [List.cons_append,nlS_cons,nlS_app,nlS_cons,nlS_cons]
 rfl
theorem stT_len {m:Md} (hm:mchk m=0):(stT m).length≤8000:=by
 obtain ⟨g1,g2⟩:=mchk_ok hm
 obtain ⟨k1,k2,k3⟩:=fchk_ok g2
 have h1:=headB_len g1 k1
 have h2:=rowsK_bytes (L:=srt m.n m.d m.l) (fun p hp=>k2 p ((srt_perm m.n m.d m.l).mem_iff.1 hp)) g1 (by rw [srt_len];exact k1) m.l.length (by rw [srt_len];exact Nat.le_refl _)
 have h3:=clsB_len hm
 have h4:=nxtB_len hm
 rw [stT_parts]
 simp only [List.length_append,List.length_cons,List.length_nil]
 omega
end Go.Proofs.YtfkfficabeclcaaGreatDoor

namespace Go.Proofs.YtfkfficabeclcaaGreatDoor
open Go Go.RowKit Go.Sort Sx
open Go.Lib hiding intOf
set_option maxRecDepth 2000
end Go.Proofs.YtfkfficabeclcaaGreatDoor

namespace Go.Proofs.YtfkfficabeclcaaGreatDoor
open Go Go.RowKit Go.Sort Sx
open Go.Lib hiding intOf
set_option maxRecDepth 2000
abbrev retMe (x:Md × Int):DV:=.tup [x.1.dc,.one (i64 x.2)]
theorem rdRws_app (f:List Str→Option Pt):∀ (a b:List Str),rdRws f (a++b)=match rdRws f a with
  | none=>none
  | some r=>(rdRws f b).map fun q=>r++q
 | [],b=>by simp [rdRws]
 | x::a,b=>by
  rw [List.cons_append,rdRws,rdRws]
  cases h:f (spl 32 x) with
  | none=>rfl
  | some p =>
   dsimp only
   rw [rdRws_app f a b]
   cases h2:rdRws f a with
   | none=>rfl
   | some r =>
    dsimp only [Option.map_some]
    cases rdRws f b<;>rfl
theorem rdRws_one (f:List Str→Option Pt) (x:Str):rdRws f [x]=(f (spl 32 x)).map fun p=>[p]:=by
 rw [rdRws]
 cases f (spl 32 x)<;>rfl
theorem rdRws_len (f:List Str→Option Pt):∀ {l:List Str} {A:List Pt},rdRws f l=some A→A.length=l.length
 | [],A,h=>by rw [rdRws] at h;injection h with h;subst h;rfl
 | x::l,A,h=>by
  rw [rdRws] at h
  cases h1:f (spl 32 x) with
  | none=>rw [h1] at h;cases h
  | some p =>
   rw [h1] at h
   dsimp only at h
   cases h2:rdRws f l with
   | none=>rw [h2] at h;cases h
   | some r =>
    rw [h2] at h
    injection h with h
    subst h
    rw [List.length_cons,List.length_cons,rdRws_len f h2]
theorem smd_cases {s:Str} {n d:Int} {l l':List Pt} (hp:l'.Perm l) (hs:l'.Pairwise fun a b=>a.id≤b.id):(mchk ⟨n,d,l'⟩=0∧stT ⟨n,d,l'⟩=s∧backS s (some (n,d,l))=(⟨n,d,l'⟩,0))∨(mchk ⟨n,d,l'⟩=0∧stT ⟨n,d,l'⟩≠s∧backS s (some (n,d,l))=(⟨0,0,[]⟩,12))∨(mchk ⟨n,d,l'⟩=8∧backS s (some (n,d,l))=(⟨0,0,[]⟩,12)):=by
 rw [backS_any hp hs]
 rcases mchk_08 ⟨n,d,l'⟩ with h|h
 ·by_cases e:stT ⟨n,d,l'⟩=s
  ·exact .inl ⟨h,e,by rw [if_pos ⟨h,e⟩]⟩
  ·exact .inr (.inl ⟨h,e,by rw [if_neg fun k=>e k.2]⟩)
 ·exact .inr (.inr ⟨h,by rw [if_neg fun k=>by omega]⟩)
end Go.Proofs.YtfkfficabeclcaaGreatDoor

namespace Go.Proofs.YtfkfficabeclcaaGreatDoor
open Go Go.RowKit Go.Sort Sx
open Go.Lib hiding intOf
theorem bsz (s:Str):(⟨s.toArray⟩:ByteArray).size=s.length:=by simp [ByteArray.size]
theorem bdl (s:Str):(⟨s.toArray⟩:ByteArray).data.toList=s:=by simp
theorem atoV_ok {s:Str} {v:Int} (h:atoV s=some v):atoiAll s=.ok v:=by
 unfold atoV at h
 split at h
 ·rename_i v' e;injection h with h;subst h;exact e
 ·cases h
theorem below_bw {w w':World} {e:TypeId} (h:w'=w∨∃ t,w'=Lib.bytesWorld w e t):Below w.heap.size w w':=by
 rcases h with rfl|⟨t,rfl⟩
 ·exact Below.refl _ _
 ·exact bytesWorld_below _ _ _
theorem atoi_yes {s:Str} {v:Int} (hs:s.length≤1000000) (h:atoV s=some v) (w:World):Calls Tryz.prog 85 #[bstr s] w fun e w'=>e=.returned (.tuple #[.int .i64 v,.nilIface])∧Below w.heap.size w w' :=
 (Tryz.strconv_Atoi_ok ⟨s.toArray⟩ (by rw [bsz];omega) v (by rw [bdl];exact atoV_ok h) w).mono fun _ _ ⟨a,b⟩=>⟨a,below_bw b⟩
theorem parse_yes {s:Str} {v:Int} (hs:s.length≤1000000) (h:atoV s=some v) (w:World):Calls Tryz.prog 86 #[bstr s,.int .i64 10,.int .i64 64] w fun e w'=>e=.returned (.tuple #[.int .i64 v,.nilIface])∧Below w.heap.size w w' :=
 (Tryz.strconv_ParseInt_10_at64_ok ⟨s.toArray⟩ (by rw [bsz];omega) v (by rw [parseIntB_64,bdl];exact atoV_ok h) w).mono fun _ _ ⟨a,b⟩=>⟨a,below_bw b⟩
theorem atoi_no {s:Str} (hs:s.length≤1000000) (h:atoV s=none) {w:World} (hg:Gd w):Calls Tryz.prog 85 #[bstr s] w fun e w'=>∃ n N,e=.returned (.tuple #[.int .i64 n,.iface 245 (.pointer (some ⟨N,0,none⟩))])∧Below w.heap.size w w':=by
 obtain ⟨t1,p1,h1⟩:=hg.es
 obtain ⟨t2,p2,h2⟩:=hg.er
 have hz:(⟨s.toArray⟩:ByteArray).size≤281474976710656:=by rw [bsz];omega
 unfold atoV at h
 rcases e:atoiAll s with v|_|_
 ·rw [e] at h;cases h
 ·exact (Tryz.strconv_Atoi_syntax_var ⟨s.toArray⟩ hz (by rw [bdl];exact e) t1 p1 w h1).mono fun _ _ ⟨N,a,_,_,b⟩=>⟨_,N,a,b⟩
 ·exact (Tryz.strconv_Atoi_range_var ⟨s.toArray⟩ hz (by rw [bdl];exact e) t2 p2 w h2).mono fun _ _ ⟨N,a,_,_,b⟩=>⟨_,N,a,b⟩
theorem parse_no {s:Str} (hs:s.length≤1000000) (h:atoV s=none) {w:World} (hg:Gd w):Calls Tryz.prog 86 #[bstr s,.int .i64 10,.int .i64 64] w fun e w'=>∃ n N,e=.returned (.tuple #[.int .i64 n,.iface 245 (.pointer (some ⟨N,0,none⟩))])∧Below w.heap.size w w':=by
 obtain ⟨t1,p1,h1⟩:=hg.es
 obtain ⟨t2,p2,h2⟩:=hg.er
 have hz:(⟨s.toArray⟩:ByteArray).size≤281474976710656:=by rw [bsz];omega
 unfold atoV at h
 rcases e:atoiAll s with v|_|_
 ·rw [e] at h;cases h
 ·exact (Tryz.strconv_ParseInt_10_at64_syntax_var ⟨s.toArray⟩ hz (by rw [parseIntB_64,bdl];exact e) t1 p1 w h1).mono fun _ _ ⟨N,a,_,_,b⟩=>⟨_,N,a,b⟩
 ·exact (Tryz.strconv_ParseInt_10_at64_range_var ⟨s.toArray⟩ hz (by rw [parseIntB_64,bdl];exact e) t2 p2 w h2).mono fun _ _ ⟨N,a,_,_,b⟩=>⟨_,N,a,b⟩
inductive Tg where
 | i (b o:Nat)
 | l (b o:Nat)
 | r (b o:Nat)
def Tg.b:Tg→Nat
 | .i b _=>b
 | .l b _=>b
 | .r b _=>b
def Tg.v:Tg→Value
 | .i b o=>.iface 136 (.pointer (some ⟨b,o,none⟩))
 | .l b o=>.iface 145 (.pointer (some ⟨b,o,none⟩))
 | .r b o=>.iface 93 (.pointer (some ⟨b,o,none⟩))
def Cel (W:World) (b o:Nat):Prop:=(∃ u,W.cell? ⟨b,o,none⟩=some u)∧W.frozen? ⟨b,o,none⟩=false
def Tg.ok (W:World):Tg→Prop
 | .i b o=>Cel W b o
 | .l b o=>Cel W b o
 | .r b o=>Cel W b o∧Cel W b (o+1)
def Tg.put (s:Str) (W:World):Tg→Option World
 | .i b o=>(atoV s).map fun n=>W.setCell ⟨b,o,none⟩ (.int .i64 n)
 | .l b o=>(atoV s).map fun n=>W.setCell ⟨b,o,none⟩ (.int .i64 n)
 | .r b o=>(frV s).map fun q=>(W.setCell ⟨b,o,none⟩ (.int .i64 q.1)).setCell ⟨b,o+1,none⟩ (.int .i64 q.2)
def scanW:List Str→List Tg→World→World × Bool
 | s::ws,t::ts,W=>match t.put s W with
  | some W'=>scanW ws ts W'
  | none=>(W,false)
 | _,_,W=>(W,true)
theorem cel_set {W:World} {b o:Nat} (h:Cel W b o) (a:Addr) (v:Value):Cel (W.setCell a v) b o:=by
 obtain ⟨⟨u,h1⟩,h2⟩:=h
 refine ⟨cell?_setCell_some h1,?_⟩
 by_cases e:b=a.block
 ·subst e
  unfold World.frozen? at h2 ⊢
  simp only [World.setCell,Array.getElem?_modify] at h2 ⊢
  cases hk:W.heap[a.block]? with
  | none=>simp [World.cell?,hk] at h1
  | some x =>
   simp only [hk] at h2 ⊢
   cases x<;>simp_all
 ·rw [World.frozen?_of_block (w:=W) (Below.heap_setCell W a v b e)];exact h2
theorem Tg.ok_set {W:World} {t:Tg} (h:t.ok W) (a:Addr) (v:Value):t.ok (W.setCell a v):=by
 cases t with
 | i b o=>exact cel_set h a v
 | l b o=>exact cel_set h a v
 | r b o=>exact ⟨cel_set h.1 a v,cel_set h.2 a v⟩
theorem cel_of {W W':World} {b o:Nat} (h:Cel W b o) (e:W'.heap[b]? = W.heap[b]?):Cel W' b o:=by
 obtain ⟨⟨u,h1⟩,h2⟩:=h
 exact ⟨⟨u,(World.cell?_of_block (w:=W) (a:=⟨b,o,none⟩) e).trans h1⟩,(World.frozen?_of_block (w:=W) (a:=⟨b,o,none⟩) e).trans h2⟩
theorem size_set (W:World) (a:Addr) (v:Value):(W.setCell a v).heap.size=W.heap.size:=by simp [World.setCell]
theorem below_set {n:Nat} {W W':World} (h:Below n W W') (a:Addr) (v:Value):Below n (W.setCell a v) (W'.setCell a v):=by
 refine ⟨h.os,h.tape,h.output,by rw [size_set,size_set];exact h.size,fun k hk => ?_⟩
 simp only [World.setCell,Array.getElem?_modify]
 rw [h.block k hk]
end Go.Proofs.YtfkfficabeclcaaGreatDoor

namespace Go.Proofs.YtfkfficabeclcaaGreatDoor
open Go Go.RowKit Go.Sort Sx
open Go.Lib hiding intOf
theorem rep_words {w:World} {M:Nat→Prop} {l:List Str} {v:Value} (h:Rep w M (strs l) v):∃ a c,v=.slice a l.length c∧∀ i (hi:i<l.length),∃ b off,a=some ⟨b,off,none⟩∧b<w.heap.size∧¬ M b∧w.cell? ⟨b,off+i,none⟩=some (bstr l[i]):=by
 obtain ⟨L,hL⟩:∃ L:List (List Sx.D),L=l.map fun s=>[str s]:=⟨_,rfl⟩
 have hll:L.length=l.length:=by rw [hL,List.length_map]
 have h':Rep w M (.list 1 L) v:=by rw [hL];exact h
 clear h
 cases h' with
 | nil k x c hm hx =>
  refine ⟨x,c,by rw [← hll];rfl,fun i hi => ?_⟩
  rw [← hll] at hi;exact absurd hi (Nat.not_lt_zero _)
 | @list b off cap k L vs hc hm hMb hb hk hv hr =>
  refine ⟨_,cap,by rw [hll],fun i hi=>⟨b,off,rfl,hb,hMb,?_⟩⟩
  have hi':i<L.length:=by omega
  have e1:L[i]=[str l[i]]:=by subst hL;rw [List.getElem_map]
  have h1:=hv i 0 hi' (by decide)
  have h2:=hr i 0 hi' (by rw [e1];exact Nat.zero_lt_one)
  have e2:L[i][0]'(by rw [e1];exact Nat.zero_lt_one)=str l[i]:=by simp only [e1];rfl
  rw [e2] at h2
  have h3:vs i 0=bstr l[i]:=by
   generalize vs i 0=u at h2
   cases h2;rfl
  rw [h3,Nat.mul_one,Nat.add_zero] at h1
  exact h1
structure Outs (w:World) (ts:List Tg) (a:Option Addr):Prop where
 at_:∀ i (hi:i<ts.length),∃ b off,a=some ⟨b,off,none⟩∧b<w.heap.size∧(∀ t∈ts,t.b≠b)∧w.cell? ⟨b,off+i,none⟩=some ts[i].v
 gl:∀ t∈ts,gl≤t.b
 lt:∀ t∈ts,t.b<w.heap.size
 ok:∀ t∈ts,t.ok w
set_option maxRecDepth 100000 in
set_option maxHeartbeats 4000000 in
theorem scan_any (ws:List Str) (ts:List Tg) (hl:ws.length≤1000000) (hlt:ts.length≤100) (hs:∀ x∈ws,x.length≤1000000) (w:World) (hg:Gd w) (slw:Value) (hw:Rep w (fun b=>∃ t∈ts,t.b=b) (strs ws) slw) (a:Option Addr) (c:Nat) (ho:Outs w ts a) :
  Calls Tryz.prog 45 #[slw,.slice a ts.length c] w fun e w'=>if ws.length=ts.length then e=.returned (.bool (scanW ws ts w).2)∧Below w.heap.size (scanW ws ts w).1 w' else e=.returned (.bool false)∧Below w.heap.size w w':=by
 obtain ⟨aw,cw,rfl,hcw⟩:=rep_words hw
 by_cases hlen:ws.length=ts.length
 case neg =>
  simp only [if_neg hlen]
  have hn:((ws.length:Int) != (ts.length:Int))=true:=bne_iff_ne.2 (by omega)
  go_enter Tryz.func45,Tryz.ntmps45
  go_wp2
  go_ret
  exact ⟨rfl,Below.refl _ _⟩
 simp only [if_pos hlen]
 have hn:((ts.length:Int) != (ts.length:Int))=false:=bne_eq_false_iff_eq.2 rfl
 rw [hlen]
 go_enter Tryz.func45,Tryz.ntmps45
 go_wp2
 go_loopw [23] (fun i wr=>∃ (k:Nat) (Wk:World),k≤ts.length∧i=.int .i64 k∧scanW ws ts w=scanW (ws.drop k) (ts.drop k) Wk∧Below w.heap.size Wk wr∧Wk.heap.size=w.heap.size∧(∀ b,(∀ t∈ts,t.b≠b)→Wk.heap[b]? = w.heap[b]?)∧∀ t∈ts,t.ok Wk) (fun i _=>ts.length-(intOf i).toNat)
 case atStart=>exact ⟨0,w,Nat.zero_le _,rfl,rfl,Below.refl _ _,rfl,fun _ _=>rfl,ho.ok⟩
 case round =>
  obtain ⟨k,Wk,hk,rfl,hsc,hB,hWs,hkp,hok⟩:=hrel
  obtain ⟨wo,hwo⟩:∃ wo,wo=wr:=⟨_,rfl⟩
  subst hwo
  have hsz:w.heap.size≤wo.heap.size:=by have:=hB.size;omega
  have hoff:∀ b,b<w.heap.size→(∀ t∈ts,t.b≠b)→wo.heap[b]? = w.heap[b]? := fun b hb hn=>(hB.block b hb).trans (hkp b hn)
  have hgW:Gd wo:=gd_keep hsz (fun b hb=>hoff b (Nat.lt_of_lt_of_le hb (gd_size hg)) fun t ht e=>by have:=ho.gl t ht;omega) hg
  rcases Nat.lt_or_ge k ts.length with hlt'|hge
  ·have hkw:k<ws.length:=by omega
   obtain ⟨bw,ow,ha1,hb1,hM1,hc1⟩:=hcw k hkw
   obtain ⟨bo,oo,ha2,hb2,hM2,hc2⟩:=ho.at_ k hlt'
   subst ha1
   subst ha2
   have hcw1:wo.cell? ⟨bw,ow+k,none⟩=some (bstr ws[k]):=(World.cell?_of_block (w:=w) (a:=⟨bw,ow+k,none⟩) (hoff bw hb1 fun t ht e=>hM1 ⟨t,ht,e⟩)).trans hc1
   have hco1:wo.cell? ⟨bo,oo+k,none⟩=some ts[k].v:=(World.cell?_of_block (w:=w) (a:=⟨bo,oo+k,none⟩) (hoff bo hb2 hM2)).trans hc2
   have hmem:=List.getElem_mem hlt'
   have hok1:=hok _ hmem
   have hgl1:=ho.gl _ hmem
   have hlt1:=ho.lt _ hmem
   have hx:=hs _ (List.getElem_mem hkw)
   rw [List.drop_eq_getElem_cons hkw,List.drop_eq_getElem_cons hlt',scanW] at hsc
   have hset:∀ (a:Addr) (v:Value),(∃ t∈ts,t.b=a.block)→(∀ b,(∀ t∈ts,t.b≠b)→(Wk.setCell a v).heap[b]? = w.heap[b]?)∧∀ t∈ts,t.ok (Wk.setCell a v):=fun a v ⟨t,ht,e⟩=>⟨fun b hb=>(Below.heap_setCell Wk a v b (fun e'=>hb t ht (e.trans e'.symm))).trans (hkp b hb),fun t ht=>Tg.ok_set (hok t ht) a v⟩
   have hset2:∀ (a:Addr) (v:Value) (a':Addr) (v':Value),(∃ t∈ts,t.b=a.block)→(∃ t∈ts,t.b=a'.block)→(∀ b,(∀ t∈ts,t.b≠b)→((Wk.setCell a v).setCell a' v').heap[b]? = w.heap[b]?)∧∀ t∈ts,t.ok ((Wk.setCell a v).setCell a' v'):=fun a v a' v' h1 ⟨t,ht,e⟩=>⟨fun b hb=>(Below.heap_setCell _ a' v' b (fun e'=>hb t ht (e.trans e'.symm))).trans ((hset a v h1).1 b hb),fun t ht=>Tg.ok_set ((hset a v h1).2 t ht) a' v'⟩
   have hmb:∃ t∈ts,t.b=ts[k].b:=⟨_,hmem,rfl⟩
   clear hcw hc1 hc2 hs hM1 hM2
   generalize ts[k]=t at *
   generalize ws[k]=x at *
   cases t with
   | i b o =>
    have hco:wo.cell? ⟨bo,oo+k,none⟩=some (.iface 136 (.pointer (some ⟨b,o,none⟩))):=hco1
    have hb:b<w.heap.size:=hlt1
    have hcel:Cel Wk b o:=hok1
    have hmb':∃ t∈ts,t.b=b:=hmb
    clear hco1 hlt1 hok1 hmb
    have ty:=fun w=>ta_yes Tryz.underlying136 (fun _ h=>by cases h) (.pointer (some ⟨b,o,none⟩)) 20 w
    cases hv:atoV x with
    | none =>
     have hI:=atoi_no hx hv hgW
     have hsc':scanW ws ts w=(Wk,false):=by rw [hsc];simp only [Tg.put,hv,Option.map_none]
     go_wp2_with (go_at_call 85;(with_reducible refine Calls.mono hI ?_);rintro e W1 ⟨n,N,rfl,B1⟩)
     go_ret
     rw [hsc']
     exact ⟨rfl,hB.trans (B1.mono hsz)⟩
    | some v =>
     have hI:=atoi_yes hx hv wo
     have hsc':scanW ws ts w=scanW (ws.drop (k+1)) (ts.drop (k+1)) (Wk.setCell ⟨b,o,none⟩ (.int .i64 v)):=by rw [hsc];simp only [Tg.put,hv,Option.map_some]
     obtain ⟨⟨u,hu⟩,hf⟩:=cel_of hcel (hB.block b hb)
     have kp:∀ {W':World},Below wo.heap.size wo W'→W'.cell? ⟨b,o,none⟩=some u∧W'.frozen? ⟨b,o,none⟩=false:=fun hb'=>⟨(World.cell?_of_block (w:=wo) (a:=⟨b,o,none⟩) (hb'.block b (by omega))).trans hu,(World.frozen?_of_block (w:=wo) (a:=⟨b,o,none⟩) (hb'.block b (by omega))).trans hf⟩
     clear hsc
     go_wp2_with (first
      | (go_at_call 85;(with_reducible refine Calls.mono hI ?_);rintro e W1 ⟨rfl,B1⟩;have g0:=(kp B1).1;have g1:=(kp B1).2)
      | (rw [Oper.semAt_eq _ _ _ (fun c h=>by cases h)];go_simp;try go_bits))
     go_roundw
     case rel =>
      refine ⟨k+1,Wk.setCell ⟨b,o,none⟩ (.int .i64 v),hlt',by go_num,hsc',below_set (hB.trans (B1.mono hsz)) _ _,(size_set _ _ _).trans hWs,(hset _ _ hmb').1,(hset _ _ hmb').2⟩
     case measure=>simp [intOf];omega
   | l b o =>
    have hco:wo.cell? ⟨bo,oo+k,none⟩=some (.iface 145 (.pointer (some ⟨b,o,none⟩))):=hco1
    have hb:b<w.heap.size:=hlt1
    have hcel:Cel Wk b o:=hok1
    have hmb':∃ t∈ts,t.b=b:=hmb
    clear hco1 hlt1 hok1 hmb
    have t0:=fun w=>ta_no Tryz.underlying136 (fun _ h=>by cases h) Tryz.zeroValue136 (show (145:TypeId)≠136 by decide) (.pointer (some ⟨b,o,none⟩)) 20 w
    have ty:=fun w=>ta_yes Tryz.underlying145 (fun _ h=>by cases h) (.pointer (some ⟨b,o,none⟩)) 20 w
    cases hv:atoV x with
    | none =>
     have hI:=parse_no hx hv hgW
     have hsc':scanW ws ts w=(Wk,false):=by rw [hsc];simp only [Tg.put,hv,Option.map_none]
     go_wp2_with (go_at_call 86;(with_reducible refine Calls.mono hI ?_);rintro e W1 ⟨n,N,rfl,B1⟩)
     go_ret
     rw [hsc']
     exact ⟨rfl,hB.trans (B1.mono hsz)⟩
    | some v =>
     have hI:=parse_yes hx hv wo
     have hsc':scanW ws ts w=scanW (ws.drop (k+1)) (ts.drop (k+1)) (Wk.setCell ⟨b,o,none⟩ (.int .i64 v)):=by rw [hsc];simp only [Tg.put,hv,Option.map_some]
     obtain ⟨⟨u,hu⟩,hf⟩:=cel_of hcel (hB.block b hb)
     have kp:∀ {W':World},Below wo.heap.size wo W'→W'.cell? ⟨b,o,none⟩=some u∧W'.frozen? ⟨b,o,none⟩=false:=fun hb'=>⟨(World.cell?_of_block (w:=wo) (a:=⟨b,o,none⟩) (hb'.block b (by omega))).trans hu,(World.frozen?_of_block (w:=wo) (a:=⟨b,o,none⟩) (hb'.block b (by omega))).trans hf⟩
     clear hsc
     go_wp2_with (first
      | (go_at_call 86;(with_reducible refine Calls.mono hI ?_);rintro e W1 ⟨rfl,B1⟩;have g0:=(kp B1).1;have g1:=(kp B1).2)
      | (rw [Oper.semAt_eq _ _ _ (fun c h=>by cases h)];go_simp;try go_bits))
     go_roundw
     case rel =>
      refine ⟨k+1,Wk.setCell ⟨b,o,none⟩ (.int .i64 v),hlt',by go_num,hsc',below_set (hB.trans (B1.mono hsz)) _ _,(size_set _ _ _).trans hWs,(hset _ _ hmb').1,(hset _ _ hmb').2⟩
     case measure=>simp [intOf];omega
   | r b o =>
    have hco:wo.cell? ⟨bo,oo+k,none⟩=some (.iface 93 (.pointer (some ⟨b,o,none⟩))):=hco1
    have hb:b<w.heap.size:=hlt1
    have hcel:Cel Wk b o∧Cel Wk b (o+1):=hok1
    have hmb':∃ t∈ts,t.b=b:=hmb
    clear hco1 hlt1 hok1 hmb
    have t0:=fun w=>ta_no Tryz.underlying136 (fun _ h=>by cases h) Tryz.zeroValue136 (show (93:TypeId)≠136 by decide) (.pointer (some ⟨b,o,none⟩)) 20 w
    have t1:=fun w=>ta_no Tryz.underlying145 (fun _ h=>by cases h) Tryz.zeroValue145 (show (93:TypeId)≠145 by decide) (.pointer (some ⟨b,o,none⟩)) 20 w
    have ty:=fun w=>ta_yes Tryz.underlying93 (fun _ h=>by cases h) (.pointer (some ⟨b,o,none⟩)) 20 w
    have hI:=(fn_call (vs:=[bstr x]) (fun _ _=>Tryz.call87 _ _) rfl (cReadNumber_fn x hx) hgW ⟨.v _ rfl trivial,trivial⟩)
    have hfr:frV x=if (readV x).2=0 then some (readV x).1 else none:=rfl
    generalize readV x=q at *
    obtain ⟨⟨qn,qd⟩,qe⟩:=q
    simp only at hI hfr
    by_cases hq:qe=0
    ·subst hq
     rw [if_pos rfl] at hfr
     have hsc':scanW ws ts w=scanW (ws.drop (k+1)) (ts.drop (k+1)) ((Wk.setCell ⟨b,o,none⟩ (.int .i64 qn)).setCell ⟨b,o+1,none⟩ (.int .i64 qd)):=by rw [hsc];simp only [Tg.put,hfr,Option.map_some]
     obtain ⟨⟨u,hu⟩,hf⟩:=cel_of hcel.1 (hB.block b hb)
     obtain ⟨⟨u',hu'⟩,hf'⟩:=cel_of hcel.2 (hB.block b hb)
     have kp:∀ {W':World},Below wo.heap.size wo W'→W'.cell? ⟨b,o,none⟩=some u∧W'.frozen? ⟨b,o,none⟩=false∧W'.cell? ⟨b,o+1,none⟩=some u'∧W'.frozen? ⟨b,o+1,none⟩=false:=fun hb'=>⟨(World.cell?_of_block (w:=wo) (a:=⟨b,o,none⟩) (hb'.block b (by omega))).trans hu,(World.frozen?_of_block (w:=wo) (a:=⟨b,o,none⟩) (hb'.block b (by omega))).trans hf,(World.cell?_of_block (w:=wo) (a:=⟨b,o+1,none⟩) (hb'.block b (by omega))).trans hu',(World.frozen?_of_block (w:=wo) (a:=⟨b,o+1,none⟩) (hb'.block b (by omega))).trans hf'⟩
     clear hsc hfr
     go_wp2_with (first
      | (go_at_call 87;(with_reducible refine Calls.mono hI ?_);rintro e W1 ⟨rfl,B1⟩;have B2:Below wo.heap.size wo (W1.alloc (.cells #[.int .i64 qn,.int .i64 qd] 25)):=B1.alloc B1.size _;obtain ⟨g0,g1,g2,g3⟩:=kp B2)
      | (rw [Oper.semAt_eq _ _ _ (fun c h=>by cases h)];go_simp;try go_bits))
     go_roundw
     case rel =>
      refine ⟨k+1,(Wk.setCell ⟨b,o,none⟩ (.int .i64 qn)).setCell ⟨b,o+1,none⟩ (.int .i64 qd),hlt',by go_num,hsc',below_set (below_set (hB.trans (B2.mono hsz)) _ _) _ _,(size_set _ _ _).trans ((size_set _ _ _).trans hWs),(hset2 _ _ _ _ hmb' hmb').1,(hset2 _ _ _ _ hmb' hmb').2⟩
     case measure=>simp [intOf];omega
    ·rw [if_neg hq] at hfr
     have hsc':scanW ws ts w=(Wk,false):=by rw [hsc];simp only [Tg.put,hfr,Option.map_none]
     have hqb:(qe != 0)=true:=bne_iff_ne.2 hq
     clear hsc hfr
     go_wp2_with (go_at_call 87;(with_reducible refine Calls.mono hI ?_);rintro e W1 ⟨rfl,B1⟩)
     go_ret
     rw [hsc']
     exact ⟨rfl,hB.trans ((B1.alloc B1.size _).mono hsz)⟩
  ·obtain rfl:k=ts.length:=by omega
   have hd1:ws.drop ts.length=[]:=by rw [← hlen,List.drop_length]
   have hsc':scanW ws ts w=(Wk,true):=by rw [hsc,hd1];simp [scanW]
   go_wp2
   go_ret
   rw [hsc']
   exact ⟨rfl,hB⟩
end Go.Proofs.YtfkfficabeclcaaGreatDoor

namespace Go.Proofs.YtfkfficabeclcaaGreatDoor
open Go Go.RowKit Go.Sort Sx
open Go.Lib hiding intOf
def chk3 (b o len k:Nat):Value:=.slice (some ⟨b,o+3*k,none⟩) (min 3 (len-3*k)) (min 3 (len-3*k))
set_option maxRecDepth 100000 in
set_option maxHeartbeats 4000000 in
theorem chunk_ends (a:Option Addr) (b o len c B1 B2 n:Nat) (w:World) (ha:len≠0→a=some ⟨b,o,none⟩) (h1:Boxed w B1 63 (.slice a len c)) (h2:Boxed w B2 3 (.int .i64 3)) (hlc:len≤c) (hlen:len≤1000000) (hn:1≤n) :
  SeqEnds n Tryz.prog 132 #[.pointer (some ⟨B1,0,none⟩),.pointer (some ⟨B2,0,none⟩)] (fun k:Nat=>#[chk3 b o len k]) (fun x=>x=B1∨x=B2) (List.range ((len+2) / 3)) w:=fun lp J Jx W hsz hbs hJ hY h0=>by
 have hb1:Boxed W B1 63 (.slice a len c):=(hbs B1 (.inl rfl)).trans h1
 have hb2:Boxed W B2 3 (.int .i64 3):=(hbs B2 (.inr rfl)).trans h2
 refine callsIn_of_wp Tryz.func132 rfl trivial ?_ rfl
 simp only [Tryz.ntmps132,List.size_toArray,List.length_cons,List.length_nil,Nat.reduceAdd,Nat.reduceSub,Array.replicate_succ,Array.replicate_zero,List.push_toArray,List.append_toArray,List.nil_append,List.cons_append]
 gi_wp2
 gi_loopw [4] (fun x W'=>∃ k:Nat,x=.int .i64 ((3*k:Nat):Int)∧3*k≤len+2∧J (List.range k) W'∧Boxed W' B1 63 (.slice a len c)∧Boxed W' B2 3 (.int .i64 3)) (fun x _=>len+3-(intOf x).toNat)
 case atStart=>exact ⟨0,rfl,by omega,h0,hb1,hb2⟩
 case round =>
  obtain ⟨k,rfl,hk,hJk,hx1,hx2⟩:=hrel
  have c1:=hx1.cell
  have f1:=hx1.frozen
  have c2:=hx2.cell
  have f2:=hx2.frozen
  rcases Nat.lt_or_ge (3*k) len with hlt|hge
  ·have ht:decide (((3*k:Nat):Int)<(len:Int))=true:=decide_eq_true (by omega)
   have ha2:=ha (by omega)
   subst ha2
   have hrg:List.range k++k::(List.range ((len+2) / 3)).drop (k+1)=List.range ((len+2) / 3):=by
    have hkN:k<(len+2) / 3:=by omega
    conv=>rhs;rw [← List.take_append_drop k (List.range ((len+2) / 3)),List.drop_eq_getElem_cons (by simpa using hkN)]
    rw [List.take_range,Nat.min_eq_left (by omega),List.getElem_range]
   gi_wp2
   gi_region
   obtain ⟨m,hm⟩:∃ m,m=min 3 (len-3*k):=⟨_,rfl⟩
   have hm1:1≤m:=by omega
   have hm2:3*k+m≤len:=by omega
   have hm3:3*k+m≤c:=by omega
   have hmw:IntKind.i64.wrap (3*(k:Int)+(m:Int))=((3*k+m:Nat):Int):=by rw [IntWalk.i64_in _ (by omega)];omega
   have hm3w:IntKind.i64.wrap (3*(k:Int)+3)=((3*(k+1):Nat):Int):=by rw [IntWalk.i64_in _ (by omega)];omega
   obtain ⟨W2,hW2⟩:∃ W2,W2=wr.drew:=⟨_,rfl⟩
   have hJ2:J (List.range k) W2:=by rw [hW2];exact hJ _ _ _ none hJk (grownBy_drew _) (fun r e=>by cases e)
   have hy1:Boxed W2 B1 63 (.slice (some ⟨b,o,none⟩) len c):=by rw [hW2];exact hx1
   have hy2:Boxed W2 B2 3 (.int .i64 3):=by rw [hW2];exact hx2
   have d1:=hy1.cell
   have d2:=hy2.cell
   obtain ⟨fn,tmps,assign,body,hy,hR⟩:=hY (List.range k) k _ W2 hrg hJ2
   have hck:chk3 b o len k=.slice (some ⟨b,o+3*k,none⟩) m m:=by unfold chk3;rw [← hm]
   rw [hck] at hy
   try rw [show min (3:Int) ((len-3*k:Nat):Int)=(m:Int) by omega]
   try rw [← hm]
   rw [← hW2]
   clear hW2 c1 f1 c2 f2 hm hck
   gi_wp2
   refine hR.mono ?_
   rintro e W3 (⟨rfl,hJ5,hs5,hk5⟩|⟨rfl,hx5⟩)
   ·have hz1:Boxed W3 B1 63 (.slice (some ⟨b,o,none⟩) len c):=(hk5 B1 (.inl rfl)).trans hy1
    have hz2:Boxed W3 B2 3 (.int .i64 3):=(hk5 B2 (.inr rfl)).trans hy2
    have e2:=hz2.cell
    clear hR
    gi_wp2
    go_roundw
    case rel=>exact ⟨k+1,by go_num,by omega,by rw [List.range_succ];exact hJ5,hz1,hz2⟩
    case measure=>simp [intOf];omega
   ·gi_wp2
    refine bodyPost_ret (results_none rfl _ _ _) rfl ?_
    exact ⟨⟨_,rfl⟩,.inr hx5⟩
  ·have ht:decide (((3*k:Nat):Int)<(len:Int))=false:=decide_eq_false (by omega)
   gi_wp2
   go_end0
   refine ⟨⟨_,rfl⟩,.inl ?_⟩
   have:k=(len+2) / 3:=by omega
   rw [← this];exact hJk
end Go.Proofs.YtfkfficabeclcaaGreatDoor

namespace Go.Proofs.YtfkfficabeclcaaGreatDoor
open Go Go.RowKit Go.Sort Sx
open Go.Lib hiding intOf
theorem scanW_keep:∀ (ws:List Str) (ts:List Tg) (W:World),(scanW ws ts W).1.heap.size=W.heap.size∧(∀ k,(∀ t∈ts,t.b≠k)→(scanW ws ts W).1.heap[k]? = W.heap[k]?)∧∀ n,(∀ t∈ts,n≤t.b)→Below n W (scanW ws ts W).1
 | [],_,W=>⟨rfl,fun _ _=>rfl,fun _ _=>Below.refl _ _⟩
 | _::_,[],W=>⟨rfl,fun _ _=>rfl,fun _ _=>Below.refl _ _⟩
 | s::ws,t::ts,W=>by
  rw [scanW]
  have hput:∀ W',t.put s W=some W'→W'.heap.size=W.heap.size∧(∀ k,t.b≠k→W'.heap[k]? = W.heap[k]?)∧∀ n,n≤t.b→Below n W W':=by
   intro W' h
   cases t with
   | i b o =>
    obtain ⟨v,_,rfl⟩:=Option.map_eq_some_iff.1 h
    exact ⟨size_set _ _ _,fun k hk=>setCell_other fun e=>hk e.symm,fun n hn=>(Below.refl _ _).setCell hn _⟩
   | l b o =>
    obtain ⟨v,_,rfl⟩:=Option.map_eq_some_iff.1 h
    exact ⟨size_set _ _ _,fun k hk=>setCell_other fun e=>hk e.symm,fun n hn=>(Below.refl _ _).setCell hn _⟩
   | r b o =>
    obtain ⟨v,_,rfl⟩:=Option.map_eq_some_iff.1 h
    exact ⟨(size_set _ _ _).trans (size_set _ _ _),fun k hk=>(setCell_other fun e=>hk e.symm).trans (setCell_other fun e=>hk e.symm),fun n hn=>((Below.refl _ _).setCell hn _).setCell hn _⟩
  cases h:t.put s W with
  | none=>exact ⟨rfl,fun _ _=>rfl,fun _ _=>Below.refl _ _⟩
  | some W' =>
   obtain ⟨a1,a2,a3⟩:=hput W' h
   obtain ⟨b1,b2,b3⟩:=scanW_keep ws ts W'
   exact ⟨b1.trans a1,fun k hk=>(b2 k fun t ht=>hk t (List.mem_cons_of_mem _ ht)).trans (a2 k (hk t (List.mem_cons_self ..))),fun n hn=>(a3 n (hn t (List.mem_cons_self ..))).trans (b3 n fun t ht=>hn t (List.mem_cons_of_mem _ ht))⟩
theorem scan_one {t:List Str} {ts:List Tg} {R n:Nat} {T:TypeId} {cs X:Array Value} {b:Bool} (hn:ts≠[]) (hts:∀ x∈ts,x.b=R) (hl:t.length≤1000000) (hlt:ts.length≤100) (hs:∀ x∈t,x.length≤1000000) {W:World} (hg:Gd W) (hR:W.heap[R]? = some (.cells cs T (0,0))) (hok:∀ x∈ts,x.ok W) (hgl:gl≤R) (hnR:n≤R)
  {v:Value} (hv:Rep W (fun b=>b=R) (strs t) v)
  (hX:t.length=ts.length→∀ W',W'.heap[R]? = some (.cells cs T (0,0))→(scanW t ts W').2=b∧(scanW t ts W').1.heap[R]? = some (.cells X T (0,0))) (hX':t.length≠ts.length→b=false∧X=cs) :
  Calls Tryz.prog 45 #[v,.slice (some ⟨W.heap.size,0,none⟩) ts.length ts.length] (W.alloc (.cells (ts.map Tg.v).toArray 20)) fun e w'=>e=.returned (.bool b)∧w'.heap[R]? = some (.cells X T (0,0))∧(∀ k,k<W.heap.size→k≠R→w'.heap[k]? = W.heap[k]?)∧Below n W w':=by
 have hRl:=(Array.getElem?_eq_some_iff.1 hR).1
 obtain ⟨W2,hW2⟩:∃ W2,W2=W.alloc (.cells (ts.map Tg.v).toArray 20):=⟨_,rfl⟩
 have hnew:W2.heap[W.heap.size]? = some (.cells (ts.map Tg.v).toArray 20 (0,0)):=by rw [hW2];exact World.alloc_heap_new W _
 have hB:Below W.heap.size W W2:=by rw [hW2];exact (Below.refl _ _).alloc (Nat.le_refl _) _
 have hs2:W2.heap.size=W.heap.size+1:=by rw [hW2];simp
 rw [← hW2]
 clear hW2
 have hout:Outs W2 ts (some ⟨W.heap.size,0,none⟩):=by
  refine ⟨fun i hi=>⟨_,_,rfl,by omega,fun t ht=>by rw [hts t ht];omega,?_⟩,fun t ht=>by rw [hts t ht];exact hgl,fun t ht=>by rw [hts t ht];omega,fun t ht => ?_⟩
  ·simp only [World.cell?,hnew]
   simp [hi]
  ·have:=hok t ht
   have hb:=hB.block R hRl
   rw [← hts t ht] at hb
   cases t with
   | i b o=>exact cel_of this hb
   | l b o=>exact cel_of this hb
   | r b o=>exact ⟨cel_of this.1 hb,cel_of this.2 hb⟩
 have hv2:Rep W2 (fun b=>∃ t∈ts,t.b=b) (strs t) v:=hv.mono (Holds.of_below hB) fun b _ ⟨t,ht,e⟩=>by rw [← e];exact hts t ht
 refine (scan_any t ts hl hlt hs W2 (gd_below hB hg) v hv2 _ ts.length hout).mono ?_
 intro e w' h
 obtain ⟨k1,k2,k3⟩:=scanW_keep t ts W2
 have hR2:W2.heap[R]? = some (.cells cs T (0,0)):=(hB.block R hRl).trans hR
 by_cases hlen:t.length=ts.length
 ·rw [if_pos hlen] at h
  obtain ⟨rfl,h2⟩:=h
  obtain ⟨x1,x2⟩:=hX hlen W2 hR2
  refine ⟨by rw [x1],(h2.block R (by omega)).trans x2,fun k hk hkR=>(h2.block k (by omega)).trans ((k2 k fun t ht=>by rw [hts t ht];exact fun e=>hkR e.symm).trans (hB.block k hk)),?_⟩
  exact ((hB.mono (by omega)).trans (k3 n fun t ht=>by rw [hts t ht];exact hnR)).trans (h2.mono (by omega))
 ·rw [if_neg hlen] at h
  obtain ⟨rfl,h2⟩:=h
  obtain ⟨rfl,rfl⟩:=hX' hlen
  exact ⟨rfl,(h2.block R (by omega)).trans hR2,fun k hk hkR=>(h2.block k (by omega)).trans (hB.block k hk),(hB.mono (by omega)).trans (h2.mono (by omega))⟩
theorem chunk_in {n:Nat} (a:Option Addr) (l c:Nat) (w:World):CallsIn Fence.wide n Tryz.prog 83 #[.slice a l c,.int .i64 3] w fun e w'=>e=.returned (.func (.func 132) #[] #[.pointer (some ⟨w.heap.size,0,none⟩),.pointer (some ⟨w.heap.size+1,0,none⟩)])∧w'=(w.alloc (.cells #[.slice a l c] 63)).alloc (.cells #[.int .i64 3] 3):=by
 refine callsIn_of_wp Tryz.func83 rfl trivial ?_ rfl
 simp only [Tryz.ntmps83,List.size_toArray,List.length_cons,List.length_nil,Nat.reduceAdd,Nat.reduceSub,Array.replicate_succ,Array.replicate_zero,List.push_toArray,List.append_toArray,List.nil_append,List.cons_append]
 gi_wp2
 first|go_ret|refine bodyPost_ret (results_tmp rfl _ _ _) rfl ?_|refine bodyPost_end (results_tmp rfl _ _ _) rfl ?_
 exact ⟨rfl,rfl⟩
end Go.Proofs.YtfkfficabeclcaaGreatDoor
