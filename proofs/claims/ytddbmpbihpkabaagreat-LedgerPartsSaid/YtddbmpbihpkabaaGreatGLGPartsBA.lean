import Derived.Test.YtddbmpbihpkabaaGreatGLGPartsAZ
import Derived.Test.YtddbmpbihpkabaaGreatGLGPartsAY
set_option linter.all false
namespace Go.Proofs.YtddbmpbihpkabaaGreat
open Go Go.RowKit
namespace Sx
section
variable {P:Program} {M:Nat→Prop} {w w':World} {sz:Nat} {E:Env} {a:Act} {S:Nat→Prop}
theorem hue_wf {u:Bool} {n:Nat→Prop} {d:D} {v:Value} (h:Hue w M u n d v):wfV v:=by cases h<;>first|assumption|trivial
theorem rep_wf {d:D} {v:Value} (h:Rep w M d v):wfV v:=by
 cases h with
 | v x h hw=>exact hw
 | hue u n h=>exact hue_wf h
 | _=>trivial
theorem rep_self {d:D} {v:Value} {w':World} {M':Nat→Prop} (h:Rep w M d v):Rep w' M' (.v v) v:=.v v (At.oneCell (ρ:=fun _=>default) (a:=.d d) h) (rep_wf h)
theorem hue_slice {u:Bool} {n:Nat→Prop} {k:Nat} {l:List (List D)} {v:Value} (h:Hue w M u n (.list k l) v) :
  ∃ x c,v=.slice x l.length c∧c≤9223372036854775807∧l.length≤c∧∀ i (hi:i<l.length),∃ b off,x=some ⟨b,off,none⟩∧¬ M b∧¬ n b∧b<w.heap.size∧(u=true→∃ cs,CellsAt w b cs)∧l[i].length=k∧∀ j (hj:j<l[i].length),∃ y,w.cell? ⟨b,off+i*k+j,none⟩=some y∧Hue w M u n l[i][j] y:=by
 generalize hd:D.list k l=d at h
 cases h with
 | v x hn h hw=>cases hd
 | nil k' x c hm hx=>injection hd with e1 e2;subst e1 e2;exact ⟨x,c,rfl,hm,Nat.zero_le _,fun i hi=>absurd hi (Nat.not_lt_zero _)⟩
 | @list b off cap k' l' vs hc hm hM hn hb hf hk hv hr =>
  injection hd with e1 e2
  subst e1 e2
  refine ⟨_,cap,rfl,hm,hc,fun i hi=>⟨b,off,rfl,hM,hn,hb,hf,hk _ (List.getElem_mem hi),fun j hj=>⟨vs i j,hv i j hi (by rw [← hk _ (List.getElem_mem hi)];exact hj),hr i j hi hj⟩⟩⟩
theorem hue_int {u:Bool} {n:Nat→Prop} {k:IntKind} {m:Int} {v:Value} (h:Hue w M u n (.v (.int k m)) v):v=.int k m:=by cases h;rfl
def IC (S:Nat→Prop) (w:World) (b o:Nat):Prop:=S b∧b<w.heap.size∧∃ (cs:List Value) (n:Int),CellsAt w b cs∧cs[o]? = some (.int .i64 n)∧inK .i64 n
def VC (S:Nat→Prop) (w:World) (b o:Nat) (x:Option Addr) (l c:Nat):Prop:=S b∧b<w.heap.size∧∃ cs,CellsAt w b cs∧cs[o]? = some (.slice x l c)
def Nums (S:Nat→Prop) (w:World) (x:Option Addr) (len k j:Nat):Prop:=∀ i,i<len→∃ b off,x=some ⟨b,off,none⟩∧IC S w b (off+i*k+j)
theorem IC.below {b o:Nat} (h:IC S w b o) (hb:Below w.heap.size w w'):IC S w' b o:=by
 obtain ⟨h1,h2,cs,n,⟨T,h3⟩,h4⟩:=h
 exact ⟨h1,Nat.lt_of_lt_of_le h2 hb.size,cs,n,⟨T,(hb.block b h2).trans h3⟩,h4⟩
theorem vc_cell {b k l c:Nat} {x:Option Addr} (h:VC S w b k x l c):w.cell? ⟨b,k,none⟩=some (.slice x l c):=by
 obtain ⟨_,_,cs,h1,h2⟩:=h
 rw [cell_of h1];exact h2
theorem VC.below {b o l c:Nat} {x:Option Addr} (h:VC S w b o x l c) (hb:Below w.heap.size w w'):VC S w' b o x l c:=by
 obtain ⟨h1,h2,cs,⟨T,h3⟩,h4⟩:=h
 exact ⟨h1,Nat.lt_of_lt_of_le h2 hb.size,cs,⟨T,(hb.block b h2).trans h3⟩,h4⟩
theorem Nums.below {x:Option Addr} {len k j:Nat} (h:Nums S w x len k j) (hb:Below w.heap.size w w'):Nums S w' x len k j:=fun i hi=>by
 obtain ⟨b,off,e,h⟩:=h i hi
 exact ⟨b,off,e,h.below hb⟩
theorem cellsAt_fun {b:Nat} {cs cs':List Value} (h:CellsAt w b cs) (h':CellsAt w b cs'):cs'=cs:=by
 obtain ⟨T,h⟩:=h
 obtain ⟨T',h'⟩:=h'
 rw [h] at h'
 injection h' with h'
 injection h' with h1 h2 h3
 have:=congrArg Array.toList h1
 simpa using this.symm
theorem cellsAt_set {b b' o:Nat} {cs cs':List Value} {v:Value} (h:CellsAt w b cs) (h':CellsAt w b' cs'):CellsAt (w.setCell ⟨b,o,none⟩ v) b' (if b'=b then cs'.set o v else cs'):=by
 obtain ⟨T,hT⟩:=h
 by_cases e:b'=b
 ·subst e
  rw [if_pos rfl]
  have:=cellsAt_fun ⟨T,hT⟩ h'
  subst this
  exact ⟨T,by rw [heap_setCell_same w b' o cs'.toArray T v hT];simp⟩
 ·rw [if_neg e]
  obtain ⟨T',h'⟩:=h'
  exact ⟨T',by rw [heap_setCell_other _ _ _ _ e];exact h'⟩
theorem IC.poke {b o b' o':Nat} {m:Int} (hm:inK .i64 m) (h:IC S w b o) (h':IC S w b' o'):IC S (w.setCell ⟨b,o,none⟩ (.int .i64 m)) b' o':=by
 obtain ⟨h1,h2,cs,n,h3,h4⟩:=h
 obtain ⟨k1,k2,cs',n',k3,k4⟩:=h'
 refine ⟨k1,by simpa using k2,_,if b'=b∧o'=o then m else n',cellsAt_set h3 k3,?_⟩
 by_cases e:b'=b
 ·rw [if_pos e]
  by_cases e2:o'=o
  ·rw [if_pos ⟨e,e2⟩,e2,List.getElem?_set_self]
   ·exact ⟨rfl,hm⟩
   ·rw [← e2];exact (List.getElem?_eq_some_iff.1 k4.1).1
  ·rw [if_neg (fun h=>e2 h.2),List.getElem?_set_ne (fun h=>e2 h.symm)];exact k4
 ·rw [if_neg e,if_neg (fun h=>e h.1)];exact k4
theorem ic_cell {b k:Nat} (h:IC S w b k):∃ n,w.cell? ⟨b,k,none⟩=some (.int .i64 n)∧inK .i64 n∧∃ cs,CellsAt w b cs∧cs[k]? = some (.int .i64 n):=by
 obtain ⟨_,_,cs,n,h1,h2,h3⟩:=h
 exact ⟨n,by rw [cell_of h1];exact h2,h3,cs,h1,h2⟩
theorem VC.poke {b o b' o' l c:Nat} {m:Int} {x:Option Addr} (h:IC S w b o) (h':VC S w b' o' x l c):VC S (w.setCell ⟨b,o,none⟩ (.int .i64 m)) b' o' x l c:=by
 obtain ⟨h1,h2,cs,n,h3,h4⟩:=h
 obtain ⟨k1,k2,cs',k3,k4⟩:=h'
 refine ⟨k1,by simpa using k2,_,cellsAt_set h3 k3,?_⟩
 by_cases e:b'=b
 ·rw [if_pos e]
  subst e
  have:=cellsAt_fun h3 k3
  subst this
  by_cases e2:o'=o
  ·subst e2;rw [h4.1] at k4;injection k4 with k4;cases k4
  ·rw [List.getElem?_set_ne (fun h=>e2 h.symm)];exact k4
 ·rw [if_neg e];exact k4
theorem Nums.poke {b o:Nat} {m:Int} {x:Option Addr} {len k j:Nat} (hm:inK .i64 m) (h:IC S w b o) (h':Nums S w x len k j):Nums S (w.setCell ⟨b,o,none⟩ (.int .i64 m)) x len k j:=fun i hi=>by
 obtain ⟨b',off,e,h'⟩:=h' i hi
 exact ⟨b',off,e,IC.poke hm h h'⟩
theorem relS_poke {b o:Nat} {m:Int} (R:RelS sz M E a w) (h:IC S w b o) (hS:∀ b,S b→M b) (hg:∀ b,S b→gl≤b):RelS sz M E a (w.setCell ⟨b,o,none⟩ (.int .i64 m)):=by
 have hh:Holds M w (w.setCell ⟨b,o,none⟩ (.int .i64 m)):=⟨by simp,fun b' _ hb' _=>heap_setCell_other _ _ _ _ fun e=>hb' (by rw [e];exact hS _ h.1)⟩
 have hlo:=relS_lo R
 refine relS_mk R.defers R.size ⟨fun b hb=>by simpa using hlo.lt b hb,gd_keep hh.size (fun b' hb'=>heap_setCell_other _ _ _ _ fun e=>by have:=hg _ h.1;have e:b'=b:=e;omega) hlo.gd,hlo.ge⟩ fun t x hx => ?_
 obtain ⟨h1,h2⟩:=relS_get R hx
 exact ⟨h1.mono hh fun _ _ h=>h,h2⟩
theorem below_poke {s b o:Nat} {v:Value} {w0:World} (h:Below s w0 w) (hb:s≤b):Below s w0 (w.setCell ⟨b,o,none⟩ v):=by
 have e1:(w.setCell ⟨b,o,none⟩ v).os=w.os:=by unfold World.setCell;split<;>rfl
 have e2:(w.setCell ⟨b,o,none⟩ v).tape=w.tape:=by unfold World.setCell;split<;>rfl
 have e3:(w.setCell ⟨b,o,none⟩ v).output=w.output:=by unfold World.setCell;split<;>rfl
 exact ⟨e1.trans h.os,e2.trans h.tape,e3.trans h.output,by simpa using h.size,fun k hk=>(heap_setCell_other _ _ _ _ (fun e=>by have e:k=b:=e;omega)).trans (h.block k hk)⟩
variable {K:Act→World→Prop} {Q:Exit→Act→World→Prop} {o:Oper}
theorem wp_load1 {t:Nat} {td:TD} {y:Operand} {b off:Nat} {v:Value} (ht:TyOK P t td) (hag:td.agg=false) (ho:o.op=.load t y) (hv:a.eval y=.pointer (some ⟨b,off,none⟩)) (hc:w.cell? ⟨b,off,none⟩=some v) (hn:K (a.put o.dst v) w):o.wp P a w K Q:=by
 unfold Oper.wp
 have:(execOp a.eval o).run P w=.ok (.value v) w:=by
  simp [execOp,ho,hv,Instr.loadAt,Instr.sureAddr,loadVar,ht.2.1,hag,run_load,hc]
 rw [this]
 exact hn
theorem wp_store1 {t:Nat} {td:TD} {y z:Operand} {b off:Nat} {n m:Int} {cs:List Value} (ht:TyOK P t td) (hs:td.size=1) (ho:o.op=.store t y z) (hd:o.dst=none) (hv:a.eval y=.pointer (some ⟨b,off,none⟩)) (hz:a.eval z=.int .i64 m) (hc:CellsAt w b cs) (hn0:cs[off]? = some (.int .i64 n)) (hn:K a (w.setCell ⟨b,off,none⟩ (.int .i64 m))):o.wp P a w K Q:=by
 unfold Oper.wp
 obtain ⟨T,hT⟩:=id hc
 have hcell:w.cell? ⟨b,off,none⟩=some (.int .i64 n):=by rw [cell_of hc];exact hn0
 have hfz:=frozen_of_row w b off cs.toArray T hT
 have hsz:(Value.int IntKind.i64 m).cells.size=td.size:=by rw [hs];rfl
 have hst:(storeCells ⟨b,off,none⟩ [Value.int .i64 m] 0).run P w=.ok () (w.setCell ⟨b,off,none⟩ (.int .i64 m)):=by
  simp only [storeCells,Sem.run_bind,add_plain,Nat.add_zero,run_store P w _ _ _ (show (Value.int IntKind.i64 m).oneCell'=true from rfl),hcell,hfz]
  rfl
 have:(execOp a.eval o).run P w=.ok .skip (w.setCell ⟨b,off,none⟩ (.int .i64 m)):=by
  have hl:(Value.int IntKind.i64 m).cells.toList=[.int .i64 m]:=rfl
  simp [execOp,ho,hv,hz,Instr.storeAt,Instr.sureAddr,storeVar,ht.1,hsz,hl,hst]
 rw [this]
 have e:a.put o.dst undef=a:=by rw [hd];rfl
 show K (a.put o.dst undef) _
 rw [e]
 exact hn
theorem relS_put (R:RelS sz M E a w) {d:Nat} {v:Value} (hd:d<sz) (h1:v.oneCell'=true) (h2:wfV v):RelS sz M ((d,sV v)::E) (a.put (some d) v) w :=
 R.val (dst:=some d) (x:=sV v) (fun d' h=>by injection h with h;omega) (.v v h1 h2) sV_names
theorem relS_val (R:RelS sz M E a w) {t:Nat} {v:Value} (h:look E t=some (sV v)):a.eval (.tmp t)=v:=by
 have h1:Rep w M (.v v) (a.tmps.getD t undef):=(relS_get R h).1
 have h2:a.eval (.tmp t)=a.tmps.getD t undef:=rfl
 rw [h2]
 generalize a.tmps.getD t undef=u at h1
 cases h1;rfl
theorem pure_index {t k:Nat} {ea:Bool} {zl:List D} {y z:Operand} {b off len cap:Nat} {i:Int} {x:Option Addr} (ht:TyOK P t (.sl k ea zl)) (hx:x=some ⟨b,off,none⟩) (ho:o.op=.indexAddr t y z) (hi:0≤i∧i<len):PureOp P o [.slice x len cap,.int .i64 i] (.pointer (some ⟨b,off+i.toNat*k,none⟩)):=by
 subst hx
 obtain ⟨e,he2,hsz,_,_⟩:=ht.2.2.2
 refine ⟨rfl,trivial,fun f hf w => ?_⟩
 rw [ho] at hf
 have hf:[f y,f z]=_:=hf
 injection hf with h1 h2
 injection h2 with h2
 simp [execOp,ho,h1,h2,Instr.indexAt,asIntOf,run_underlying_of he2,hi,hsz,add_plain]
theorem pure_field {t n:Nat} {z:List D} {fs:List (Nat × Nat × Bool)} {y:Operand} {b off i fo fz:Nat} {fa:Bool} (ht:TyOK P t (.st n z fs)) (ho:o.op=.fieldAddr t y i) (hf:fs[i]? = some (fo,fz,fa)) (hz:fz≠0):PureOp P o [.pointer (some ⟨b,off,none⟩)] (.pointer (some ⟨b,off+fo,none⟩)):=by
 refine ⟨rfl,trivial,fun f hg w => ?_⟩
 rw [ho] at hg
 have hg:[f y]=_:=hg
 injection hg with h1
 simp [execOp,ho,h1,run_fieldAt ht hf hz]
theorem pure_len {c:Call} {t ek:Nat} {ea:Bool} {zl:List D} {y:Operand} {x:Option Addr} {len cap:Nat} (ht:TyOK P t (.sl ek ea zl)) (ho:o.op=.call c) (hc:c.callee=.builtin .len) (hts:c.argTypes[0]? = some t) (hargs:c.args.toList=[y]) (hl:(len:Int)≤9223372036854775807):PureOp P o [.slice x len cap] (.int .i64 len):=by
 obtain ⟨e,he2,_⟩:=ht.2.2.2
 refine ⟨rfl,⟨by omega,hl⟩,fun f hf w => ?_⟩
 have hop:o.op.operands.toList=[y]:=by
  rw [ho]
  obtain ⟨ca,ar,ts⟩:=c
  subst hc
  have:ar.toList=[y]:=hargs
  have e:ar=#[y]:=by apply Array.ext';simp [this]
  subst e
  rfl
 rw [hop] at hf
 have hf:[f y]=_:=hf
 injection hf with h1
 have hargs':c.args.map f=#[f y]:=by apply Array.ext';simp [hargs]
 have hlen:(Builtin.len_ c.argTypes o.type #[f y]).run P w=.ok (.int .i64 len) w:=by
  have h0:(#[f y])[0]? = some (f y):=rfl
  simp only [Builtin.len_,hts,h0,Sem.run_bind,run_underlying_of he2,Result.andThen_ok]
  rw [h1]
  simp [goInt]
 simp only [execOp,ho,resolve,hc,Sem.run_bind,Sem.run_pure,Result.andThen_ok,invoke,builtin,hargs',hlen]
end
end Sx
end Go.Proofs.YtddbmpbihpkabaaGreat

namespace Go.Proofs.YtddbmpbihpkabaaGreat
open Go Go.RowKit
namespace Sx
def cdA:Code→Code
 | .seq a _=>a
 | c=>c
def cdB:Code→Code
 | .seq _ b=>b
 | c=>c
def cdK:Code→Code
 | .block _ c=>c
 | c=>c
def cdL:Code→Code
 | .loop c=>c
 | c=>c
def cdO:Code→List Oper
 | .region _ ops _=>ops.toList
 | _=>[]
section
variable {P:Program} {C M0 M:Nat→Prop} {w0 w:World} {sz:Nat} {ρ:Nat→Nm} {E:Env} {H:Hp} {a:Act} {Γ:Cfg} {Q:Exit→Act→World→Prop}
theorem segF (hm:P.follows .mixedOrders=true) (hΓ:ΓOK P Γ) {c:Code} (ex0:Exit) (ks:List Nat) (E1:Env) (R:RelS sz M E a w) (h:code P Γ sz c E [] (fun ex E' H'=>ex=ex0∧frgE H' E' ks=some E1)) (hQ:∀ a' w',RelS sz M E1 a' w'→Below w.heap.size w w'→Q ex0 a' w'):c.wp P Q a w:=by
 refine code_sound (C:=fun b=>b=w.heap.size) (w0:=w) hm hΓ (fun _=>rfl) c _ _ _ h _ a w _ R fun ex E' H' ρ' a' w' hk R' => ?_
 obtain ⟨rfl,hk⟩:=hk
 exact hQ a' w' (frg_rel R' (fun b hb=>Nat.le_of_eq hb.symm) hk) (R'.below.below fun k hk e=>by omega)
theorem drop_cut {all:List Oper} {p m:Nat} {o:Oper} (ho:all[p+m]? = some o):all.drop p=(all.drop p).take m++o::all.drop (p+m+1)∧((all.drop p).take m).length=m:=by
 obtain ⟨hlt,hoe⟩:=List.getElem?_eq_some_iff.1 ho
 have h1:((all.drop p).take m).length=m:=by rw [List.length_take,List.length_drop];omega
 refine ⟨?_,h1⟩
 have h2:(all.drop p).drop m=o::all.drop (p+m+1):=by
  rw [List.drop_drop,List.drop_eq_getElem_cons hlt,hoe]
 rw [← h2,List.take_append_drop]
theorem relR (hΓ:ΓOK P Γ) (hdm:Γ.dm=false→C w0.heap.size) {all:List Oper} (p m:Nat) (o:Oper) {k:Env→Hp→Prop} (R:Rel C M0 w0 sz ρ E H a w) (h:regS P Γ sz all ((all.drop p).take m) E H k) (ho:all[p+m]? = some o) (hg:o.guard=none)
  (hQ:∀ E' H' ρ' a' w',k E' H'→Rel C M0 w0 sz ρ' E' H' a' w'→o.wp P a' w' (wpOps P all.toArray Q (List.range' (p+m+1) (all.drop (p+m+1)).length)) Q):wpOps P all.toArray Q (List.range' p (all.drop p).length) a w:=by
 obtain ⟨e,hl⟩:=drop_cut ho
 rw [e]
 refine reg_cut (l2:=all.drop (p+m+1)) hΓ hdm R (fun j o' hj => ?_) h hg fun E' H' ρ' a' w' hk R' => ?_
 ·rw [← e,List.getElem?_drop] at hj;exact hj
 ·rw [hl];exact hQ E' H' ρ' a' w' hk R'
theorem relE (hΓ:ΓOK P Γ) (hdm:Γ.dm=false→C w0.heap.size) {all:List Oper} (p:Nat) {k:Env→Hp→Prop} (R:Rel C M0 w0 sz ρ E H a w) (h:regS P Γ sz all (all.drop p) E H k)
  (hQ:∀ E' H' ρ' a' w',k E' H'→Rel C M0 w0 sz ρ' E' H' a' w'→Q .normal a' w'):wpOps P all.toArray Q (List.range' p (all.drop p).length) a w :=
 reg_rest hΓ hdm R (fun j o' hj=>by rw [List.getElem?_drop] at hj;exact hj) h hQ
theorem segR (hΓ:ΓOK P Γ) {all:List Oper} (p m:Nat) (o:Oper) (ks:List Nat) (E1:Env) (R:RelS sz M E a w) (h:regS P Γ sz all ((all.drop p).take m) E [] (fun E' H'=>frgE H' E' ks=some E1)) (ho:all[p+m]? = some o) (hg:o.guard=none)
  (hQ:∀ a' w',RelS sz M E1 a' w'→Below w.heap.size w w'→o.wp P a' w' (wpOps P all.toArray Q (List.range' (p+m+1) (all.drop (p+m+1)).length)) Q):wpOps P all.toArray Q (List.range' p (all.drop p).length) a w :=
 relR (C:=fun b=>b=w.heap.size) (w0:=w) hΓ (fun _=>rfl) p m o R h ho hg fun E' H' ρ' a' w' hk R'=>hQ a' w' (frg_rel R' (fun b hb=>Nat.le_of_eq hb.symm) hk) (R'.below.below fun k hk e=>by omega)
theorem segE (hΓ:ΓOK P Γ) {all:List Oper} (p:Nat) (ks:List Nat) (E1:Env) (R:RelS sz M E a w) (h:regS P Γ sz all (all.drop p) E [] (fun E' H'=>frgE H' E' ks=some E1))
  (hQ:∀ a' w',RelS sz M E1 a' w'→Below w.heap.size w w'→Q .normal a' w'):wpOps P all.toArray Q (List.range' p (all.drop p).length) a w :=
 relE (C:=fun b=>b=w.heap.size) (w0:=w) hΓ (fun _=>rfl) p R h fun E' H' ρ' a' w' hk R'=>hQ a' w' (frg_rel R' (fun b hb=>Nat.le_of_eq hb.symm) hk) (R'.below.below fun k hk e=>by omega)
theorem regN {id:Nat} {all:List Oper} (h:wpOps P all.toArray Q (List.range' 0 (all.drop 0).length) a w):(Code.region id all.toArray false).wp P Q a w:=reg_ops (by simpa using h)
end
end Sx
end Go.Proofs.YtddbmpbihpkabaaGreat

namespace Go.Proofs.YtddbmpbihpkabaaGreat
open Go Go.RowKit Go.Sort Sx
noncomputable def pt0:Code:=match (Tryz.f3).body with|some c=>c|none=>.skip
noncomputable abbrev pt1:Code:=cdB pt0
noncomputable abbrev pt2:Code:=cdB pt1
noncomputable abbrev pt3:Code:=cdB pt2
noncomputable abbrev pt4:Code:=cdB pt3
noncomputable abbrev pt5:Code:=cdB pt4
noncomputable abbrev pt6:Code:=cdB pt5
noncomputable abbrev pt7:Code:=cdB pt6
noncomputable abbrev pt8:Code:=cdB pt7
noncomputable abbrev pt9:Code:=cdB pt8
noncomputable abbrev pt10:Code:=cdB pt9
noncomputable abbrev pt11:Code:=cdB pt10
structure Shp (S:Nat→Prop) (w:World) (xP:Option Addr) (lP:Nat) (xA:Option Addr) (lA:Nat) (xR:Option Addr) (lR:Nat) (ms:Nat→Option Addr × Nat × Nat):Prop where
 p:Nums S w xP lP 3 1
 a:Nums S w xA lA 7 4
 r:∀ i,i<lR→∃ b off,xR=some ⟨b,off,none⟩∧VC S w b (off+i*6+5) (ms i).1 (ms i).2.1 (ms i).2.2
 m:∀ i,i<lR→Nums S w (ms i).1 (ms i).2.1 4 2∧(ms i).2.1≤1000000
section
variable {S:Nat→Prop} {w w':World} {xP:Option Addr} {lP:Nat} {xA:Option Addr} {lA:Nat} {xR:Option Addr} {lR:Nat} {ms:Nat→Option Addr × Nat × Nat}
theorem Shp.below (h:Shp S w xP lP xA lA xR lR ms) (hb:Below w.heap.size w w'):Shp S w' xP lP xA lA xR lR ms :=
 ⟨h.p.below hb,h.a.below hb,fun i hi=>by
  obtain ⟨b,off,e,h⟩:=h.r i hi
  exact ⟨b,off,e,h.below hb⟩,fun i hi=>⟨(h.m i hi).1.below hb,(h.m i hi).2⟩⟩
theorem Shp.poke (h:Shp S w xP lP xA lA xR lR ms) {b o:Nat} {m:Int} (hm:inK .i64 m) (hc:IC S w b o):Shp S (w.setCell ⟨b,o,none⟩ (.int .i64 m)) xP lP xA lA xR lR ms :=
 ⟨Nums.poke hm hc h.p,Nums.poke hm hc h.a,fun i hi=>by
  obtain ⟨b,off,e,h⟩:=h.r i hi
  exact ⟨b,off,e,VC.poke hc h⟩,fun i hi=>⟨Nums.poke hm hc (h.m i hi).1,(h.m i hi).2⟩⟩
end
structure Ow where
 n:Int
 d:Int
 xP:Option Addr
 lP:Nat
 kP:Nat
 xA:Option Addr
 lA:Nat
 kA:Nat
 xR:Option Addr
 lR:Nat
 kR:Nat
 ms:Nat→Option Addr × Nat × Nat
structure Rst where
 c8:List D
 c10:List D
 c12:List D
 c13:List D
 c15:List D
 c16:List D
 c18:List D
 c20:List D
 e9:Int
 e11:Int
 e14:Int
 e17:Int
 e19:Int
 e21:Int
abbrev E3 (o : Ow) (r : Rst) : Env :=
  [(7, .c (.at (.ep 5 [[.v (.int .i64 o.n), .v (.int .i64 o.d), .v (.slice o.xP o.lP o.kP), .v (.slice o.xA o.lA o.kA), .v (.slice o.xR o.lR o.kR)]] 0 0))), (8, .c (.at (.ep 3 [r.c8] 0 0))), (9, sV (.int .i64 r.e9)), (10, .c (.at (.ep 3 [r.c10] 0 0))), (11, sV (.int .i64 r.e11)), (12, .c (.at (.ep 5 [r.c12] 0 0))),
   (13, .c (.at (.ep 5 [r.c13] 0 0))), (14, sV (.int .i64 r.e14)), (15, .c (.at (.ep 5 [r.c15] 0 0))), (16, .c (.at (.ep 5 [r.c16] 0 0))), (17, sV (.int .i64 r.e17)), (18, .c (.at (.ep 5 [r.c18] 0 0))), (19, sV (.int .i64 r.e19)), (20, .c (.at (.ep 5 [r.c20] 0 0))), (21, sV (.int .i64 r.e21))]
theorem own_get (o:Ow):([[.v (.int .i64 o.n),.v (.int .i64 o.d),.v (.slice o.xP o.lP o.kP),.v (.slice o.xA o.lA o.kA),.v (.slice o.xR o.lR o.kR)]]:List (List D))[0]? = some [.v (.int .i64 o.n),.v (.int .i64 o.d),.v (.slice o.xP o.lP o.kP),.v (.slice o.xA o.lA o.kA),.v (.slice o.xR o.lR o.kR)]:=rfl
abbrev ks3:List Nat:=[7,8,9,10,11,12,13,14,15,16,17,18,19,20,21]
structure LpI (S M:Nat→Prop) (s:Nat) (w0:World) (o:Ow) (E:Env) (a:Act) (w:World):Prop where
 rel:RelS 172 M E a w
 shp:Shp S w o.xP o.lP o.xA o.lA o.xR o.lR o.ms
 bel:Below s w0 w
 le:s≤w.heap.size
section
variable {S M:Nat→Prop} {s:Nat} {w0 w w':World} {o:Ow} {E E':Env} {a a':Act}
theorem LpI.next (h:LpI S M s w0 o E a w) (R:RelS 172 M E' a' w') (hb:Below w.heap.size w w'):LpI S M s w0 o E' a' w':=⟨R,h.shp.below hb,h.bel.trans (hb.mono h.le),Nat.le_trans h.le hb.size⟩
theorem LpI.put (h:LpI S M s w0 o E a w) {d:Nat} {v:Value} (hd:d<172) (h1:v.oneCell'=true) (h2:wfV v):LpI S M s w0 o ((d,sV v)::E) (a.put (some d) v) w:=⟨relS_put h.rel hd h1 h2,h.shp,h.bel,h.le⟩
theorem LpI.poke (h:LpI S M s w0 o E a w) (hS:∀ b,S b→M b∧s≤b) {b k:Nat} {m:Int} (hm:inK .i64 m) (hc:IC S w b k):LpI S M s w0 o E a (w.setCell ⟨b,k,none⟩ (.int .i64 m)) :=
 ⟨relS_poke h.rel hc (fun b hb=>(hS b hb).1) (fun b _=>Nat.zero_le b),h.shp.poke hm hc,below_poke h.bel (hS b hc.1).2,by simpa using h.le⟩
end
theorem parts_loop1 {S M:Nat→Prop} {s:Nat} {w0 w:World} {o:Ow} {r:Rst} {a:Act} (hS:∀ b,S b→M b∧s≤b) (hl:o.lA≤1000000) (h:LpI S M s w0 o (E3 o r) a w) {Q:Exit→Act→World→Prop} (hQ:∀ a' w',LpI S M s w0 o (E3 o r) a' w'→Q .normal a' w'):(cdA pt9).wp Tryz.prog Q a w:=by
 have hg:∀ b,S b→gl≤b:=fun b _=>Nat.zero_le b
 have eL:cdA pt9=.seq (cdA (cdA pt9)) (.block 0 (.loop (.seq (.seq (.region 11 (cdO (cdA (cdA (cdL (cdK (cdB (cdA pt9))))))).toArray false) (.cond (.tmp 76) .skip (.exit 0))) (.seq (.block 1 (.region 13 (cdO (cdK (cdA (cdB (cdL (cdK (cdB (cdA pt9)))))))).toArray false)) (cdB (cdB (cdL (cdK (cdB (cdA pt9)))))))))):=rfl
 rw [eL]
 refine wp_seq (segF (by kernel_rfl) ty_ok .normal (22::ks3) ((22,sV (.int .i64 ((0:Nat):Int)))::E3 o r) h.rel ?_ fun a w' R hb => ?_)
 ·exact zw
 replace h:=h.next R hb
 refine wp_block (wp_loopG (fun n a w=>∃ i,i≤o.lA∧n=o.lA-i∧LpI S M s w0 o ((22,sV (.int .i64 ((i:Nat):Int)))::E3 o r) a w) ⟨0,Nat.zero_le _,rfl,h⟩ ?_)
 clear h
 rintro n a w ⟨i,hi,rfl,h⟩
 rcases Nat.lt_or_ge i o.lA with hlt|hge
 ·refine wp_seq (segF (by kernel_rfl) ty_ok .normal (22::ks3) ((22,sV (.int .i64 ((i:Nat):Int)))::E3 o r) h.rel ?_ fun a w' R hb => ?_)
  ·repeat' ((conv=>whnf);first|(with_reducible first|refine br_t ?_|refine br_f ?_|refine za ?_|refine zg ?_)|refine xg (own_get o) rfl ?_|refine xi (pure_len (ty_ok 29 _ rfl) rfl rfl rfl rfl (by omega)) ?_|refine zp ?_|refine zq ?_|(with_reducible first|refine bc (fun h => ?_) (fun h => ?_)|refine zt ?_|refine zf ?_|refine br_i (fun h => ?_) (fun h => ?_))|refine zg ?_|refine zi ?_|refine zb ?_)
   all_goals conv=>whnf
   all_goals rfl
  replace h:=h.next R hb
  obtain ⟨b,off,hx,hc⟩:=h.shp.a i hlt
  refine wp_seq (wp_block (regN (segR ty_ok 0 5 _ (80::81::83::22::ks3) ((80,sV (.slice o.xA o.lA o.kA))::(81,sV (.int .i64 ((i:Nat):Int)))::(83,sV (.pointer (some ⟨b,off+i*7+4,none⟩)))::(22,sV (.int .i64 ((i:Nat):Int)))::E3 o r) h.rel ?_ rfl rfl fun a w' R hb => ?_)))
  ·repeat' ((conv=>whnf);first|(with_reducible first|refine br_t ?_|refine br_f ?_|refine za ?_|refine zg ?_)|refine xg (own_get o) rfl ?_|refine xi (pure_index (ty_ok 29 _ rfl) hx rfl ⟨by omega,by omega⟩) ?_|refine xi (pure_field (ty_ok 51 _ rfl) rfl rfl (by decide)) ?_|refine zp ?_|refine zq ?_|(with_reducible first|refine bc (fun h => ?_) (fun h => ?_)|refine zt ?_|refine zf ?_|refine br_i (fun h => ?_) (fun h => ?_))|refine zg ?_|refine zi ?_|refine zb ?_)
   all_goals conv=>whnf
   all_goals rfl
  replace h:=h.next R hb
  replace hc:=hc.below hb
  obtain ⟨m,h1,h2,cs,h3,h4⟩:=ic_cell hc
  refine wp_load1 (ty_ok 3 _ rfl) rfl rfl (relS_val h.rel rfl) h1 ?_
  replace h:=h.put (d:=84) (v:=.int .i64 m) (by decide) rfl h2
  refine segR ty_ok 6 3 _ (85::87::22::ks3) ((85,sV (.int .i64 (IntKind.i64.wrap (m+1))))::(87,sV (.pointer (some ⟨b,off+i*7+4,none⟩)))::(22,sV (.int .i64 ((i:Nat):Int)))::E3 o r) h.rel ?_ rfl rfl fun a w' R hb => ?_
  ·repeat' ((conv=>whnf);first|(with_reducible first|refine br_t ?_|refine br_f ?_|refine za ?_|refine zg ?_)|refine xi (pure_index (ty_ok 29 _ rfl) hx rfl ⟨by omega,by omega⟩) ?_|refine xi (pure_field (ty_ok 51 _ rfl) rfl rfl (by decide)) ?_|refine zp ?_|refine zq ?_|(with_reducible first|refine bc (fun h => ?_) (fun h => ?_)|refine zt ?_|refine zf ?_|refine br_i (fun h => ?_) (fun h => ?_))|refine zg ?_|refine zi ?_|refine zb ?_)
   all_goals conv=>whnf
   all_goals rfl
  replace h:=h.next R hb
  replace hc:=hc.below hb
  obtain ⟨m',_,_,cs,h3,h4⟩:=ic_cell hc
  refine wp_store1 (ty_ok 3 _ rfl) rfl rfl rfl (relS_val h.rel rfl) (relS_val h.rel rfl) h3 h4 ?_
  replace h:=h.poke hS (inK_wrap .i64 (m+1)) hc
  have hw:IntKind.i64.wrap (((i:Nat):Int)+1)=((i+1:Nat):Int):=by rw [IntWalk.i64_in _ (by omega)];omega
  refine segF (by kernel_rfl) ty_ok .normal (22::ks3) ((22,sV (.int .i64 ((i+1:Nat):Int)))::E3 o r) h.rel ?_ fun a w' R hb => ?_
  ·rw [← hw]
   exact zw
  exact ⟨_,by omega,i+1,hlt,rfl,h.next R hb⟩
 ·obtain rfl:i=o.lA:=by omega
  refine wp_seq (segF (by kernel_rfl) ty_ok (.exit 0) ks3 (E3 o r) h.rel ?_ fun a w' R hb => ?_)
  ·repeat' ((conv=>whnf);first|(with_reducible first|refine br_t ?_|refine br_f ?_|refine za ?_|refine zg ?_)|refine xg (own_get o) rfl ?_|refine xi (pure_len (ty_ok 29 _ rfl) rfl rfl rfl rfl (by omega)) ?_|refine zp ?_|refine zq ?_|(with_reducible first|refine bc (fun h => ?_) (fun h => ?_)|refine zt ?_|refine zf ?_|refine br_i (fun h => ?_) (fun h => ?_))|refine zg ?_|refine zi ?_|refine zb ?_)
   all_goals conv=>whnf
   all_goals rfl
  exact hQ _ _ (h.next R hb)
theorem parts_loop3 {S M:Nat→Prop} {s:Nat} {w0 w:World} {o:Ow} {r:Rst} {a:Act} (hS:∀ b,S b→M b∧s≤b) (hl:o.lP≤1000000) (h:LpI S M s w0 o (E3 o r) a w) {Q:Exit→Act→World→Prop} (hQ:∀ a' w',LpI S M s w0 o (E3 o r) a' w'→Q .normal a' w'):(cdA pt11).wp Tryz.prog Q a w:=by
 have eL:cdA pt11=.seq (cdA (cdA pt11)) (.block 6 (.loop (.seq (.seq (.region 22 (cdO (cdA (cdA (cdL (cdK (cdB (cdA pt11))))))).toArray false) (.cond (.tmp 125) .skip (.exit 6))) (.seq (.block 7 (.region 24 (cdO (cdK (cdA (cdB (cdL (cdK (cdB (cdA pt11)))))))).toArray false)) (cdB (cdB (cdL (cdK (cdB (cdA pt11)))))))))):=rfl
 rw [eL]
 refine wp_seq (segF (by kernel_rfl) ty_ok .normal (25::ks3) ((25,sV (.int .i64 ((0:Nat):Int)))::E3 o r) h.rel ?_ fun a w' R hb => ?_)
 ·exact zw
 replace h:=h.next R hb
 refine wp_block (wp_loopG (fun n a w=>∃ i,i≤o.lP∧n=o.lP-i∧LpI S M s w0 o ((25,sV (.int .i64 ((i:Nat):Int)))::E3 o r) a w) ⟨0,Nat.zero_le _,rfl,h⟩ ?_)
 clear h
 rintro n a w ⟨i,hi,rfl,h⟩
 rcases Nat.lt_or_ge i o.lP with hlt|hge
 ·refine wp_seq (segF (by kernel_rfl) ty_ok .normal (25::ks3) ((25,sV (.int .i64 ((i:Nat):Int)))::E3 o r) h.rel ?_ fun a w' R hb => ?_)
  ·repeat' ((conv=>whnf);first|(with_reducible first|refine br_t ?_|refine br_f ?_|refine za ?_|refine zg ?_)|refine xg (own_get o) rfl ?_|refine xi (pure_len (ty_ok 24 _ rfl) rfl rfl rfl rfl (by omega)) ?_|refine zp ?_|refine zq ?_|(with_reducible first|refine bc (fun h => ?_) (fun h => ?_)|refine zt ?_|refine zf ?_|refine br_i (fun h => ?_) (fun h => ?_))|refine zg ?_|refine zi ?_|refine zb ?_)
   all_goals conv=>whnf
   all_goals rfl
  replace h:=h.next R hb
  obtain ⟨b,off,hx,hc⟩:=h.shp.p i hlt
  refine wp_seq (wp_block (regN (segR ty_ok 0 7 _ (131::132::134::25::ks3) ((131,sV (.slice o.xP o.lP o.kP))::(132,sV (.int .i64 ((i:Nat):Int)))::(134,sV (.pointer (some ⟨b,off+i*3+1,none⟩)))::(25,sV (.int .i64 ((i:Nat):Int)))::E3 o r) h.rel ?_ rfl rfl fun a w' R hb => ?_)))
  ·repeat' ((conv=>whnf);first|(with_reducible first|refine br_t ?_|refine br_f ?_|refine za ?_|refine zg ?_)|refine xg (own_get o) rfl ?_|refine xi (pure_index (ty_ok 24 _ rfl) hx rfl ⟨by omega,by omega⟩) ?_|refine xi (pure_field (ty_ok 49 _ rfl) rfl rfl (by decide)) ?_|refine zp ?_|refine zq ?_|(with_reducible first|refine bc (fun h => ?_) (fun h => ?_)|refine zt ?_|refine zf ?_|refine br_i (fun h => ?_) (fun h => ?_))|refine zg ?_|refine zi ?_|refine zb ?_)
   all_goals conv=>whnf
   all_goals rfl
  replace h:=h.next R hb
  replace hc:=hc.below hb
  obtain ⟨m,h1,h2,cs,h3,h4⟩:=ic_cell hc
  refine wp_load1 (ty_ok 2 _ rfl) rfl rfl (relS_val h.rel rfl) h1 ?_
  replace h:=h.put (d:=135) (v:=.int .i64 m) (by decide) rfl h2
  refine segR ty_ok 8 3 _ (136::138::25::ks3) ((136,sV (.int .i64 (IntKind.i64.wrap (m+1))))::(138,sV (.pointer (some ⟨b,off+i*3+1,none⟩)))::(25,sV (.int .i64 ((i:Nat):Int)))::E3 o r) h.rel ?_ rfl rfl fun a w' R hb => ?_
  ·repeat' ((conv=>whnf);first|(with_reducible first|refine br_t ?_|refine br_f ?_|refine za ?_|refine zg ?_)|refine xi (pure_index (ty_ok 24 _ rfl) hx rfl ⟨by omega,by omega⟩) ?_|refine xi (pure_field (ty_ok 49 _ rfl) rfl rfl (by decide)) ?_|refine zp ?_|refine zq ?_|(with_reducible first|refine bc (fun h => ?_) (fun h => ?_)|refine zt ?_|refine zf ?_|refine br_i (fun h => ?_) (fun h => ?_))|refine zg ?_|refine zi ?_|refine zb ?_)
   all_goals conv=>whnf
   all_goals rfl
  replace h:=h.next R hb
  replace hc:=hc.below hb
  obtain ⟨m',_,_,cs,h3,h4⟩:=ic_cell hc
  refine wp_store1 (ty_ok 2 _ rfl) rfl rfl rfl (relS_val h.rel rfl) (relS_val h.rel rfl) h3 h4 ?_
  replace h:=h.poke hS (inK_wrap .i64 (m+1)) hc
  have hw:IntKind.i64.wrap (((i:Nat):Int)+1)=((i+1:Nat):Int):=by rw [IntWalk.i64_in _ (by omega)];omega
  refine segF (by kernel_rfl) ty_ok .normal (25::ks3) ((25,sV (.int .i64 ((i+1:Nat):Int)))::E3 o r) h.rel ?_ fun a w' R hb => ?_
  ·rw [← hw]
   exact zw
  exact ⟨_,by omega,i+1,hlt,rfl,h.next R hb⟩
 ·obtain rfl:i=o.lP:=by omega
  refine wp_seq (segF (by kernel_rfl) ty_ok (.exit 6) ks3 (E3 o r) h.rel ?_ fun a w' R hb => ?_)
  ·repeat' ((conv=>whnf);first|(with_reducible first|refine br_t ?_|refine br_f ?_|refine za ?_|refine zg ?_)|refine xg (own_get o) rfl ?_|refine xi (pure_len (ty_ok 24 _ rfl) rfl rfl rfl rfl (by omega)) ?_|refine zp ?_|refine zq ?_|(with_reducible first|refine bc (fun h => ?_) (fun h => ?_)|refine zt ?_|refine zf ?_|refine br_i (fun h => ?_) (fun h => ?_))|refine zg ?_|refine zi ?_|refine zb ?_)
   all_goals conv=>whnf
   all_goals rfl
  exact hQ _ _ (h.next R hb)
theorem parts_loop2i {S M:Nat→Prop} {s:Nat} {w0 w:World} {o:Ow} {r:Rst} {a:Act} {i:Nat} (hS:∀ b,S b→M b∧s≤b) (hi:i<o.lR) (hl:o.lR≤1000000) (h:LpI S M s w0 o ((23,sV (.int .i64 ((i:Nat):Int)))::E3 o r) a w) {Q:Exit→Act→World→Prop}
  (hQ:∀ a' w',LpI S M s w0 o ((23,sV (.int .i64 ((i:Nat):Int)))::E3 o r) a' w'→Q .normal a' w'):(cdK (cdA (cdB (cdL (cdK (cdB (cdA pt10))))))).wp Tryz.prog Q a w:=by
 have eL:cdK (cdA (cdB (cdL (cdK (cdB (cdA pt10))))))=.seq (cdA (cdK (cdA (cdB (cdL (cdK (cdB (cdA pt10)))))))) (.block 4 (.loop (.seq (.seq (.region 18 (cdO (cdA (cdA (cdL (cdK (cdB (cdK (cdA (cdB (cdL (cdK (cdB (cdA pt10))))))))))))).toArray false) (.cond (.tmp 103) .skip (.exit 4))) (.seq (.block 5 (.region 20 (cdO (cdK (cdA (cdB (cdL (cdK (cdB (cdK (cdA (cdB (cdL (cdK (cdB (cdA pt10)))))))))))))).toArray false)) (cdB (cdB (cdL (cdK (cdB (cdK (cdA (cdB (cdL (cdK (cdB (cdA pt10)))))))))))))))):=rfl
 rw [eL]
 have hm:=(h.shp.m i hi).2
 refine wp_seq (segF (by kernel_rfl) ty_ok .normal (24::23::ks3) ((24,sV (.int .i64 ((0:Nat):Int)))::(23,sV (.int .i64 ((i:Nat):Int)))::E3 o r) h.rel ?_ fun a w' R hb => ?_)
 ·exact zw
 replace h:=h.next R hb
 refine wp_block (wp_loopG (fun n a w=>∃ j,j≤(o.ms i).2.1∧n=(o.ms i).2.1-j∧LpI S M s w0 o ((24,sV (.int .i64 ((j:Nat):Int)))::(23,sV (.int .i64 ((i:Nat):Int)))::E3 o r) a w) ⟨0,Nat.zero_le _,rfl,h⟩ ?_)
 clear h
 rintro n a w ⟨j,hj,rfl,h⟩
 obtain ⟨bR,fR,hxR,hv⟩:=h.shp.r i hi
 refine wp_seq (wp_seq (regN (segR ty_ok 0 6 _ (95::100::24::23::ks3) ((95,sV (.int .i64 ((j:Nat):Int)))::(100,sV (.pointer (some ⟨bR,fR+i*6+5,none⟩)))::(24,sV (.int .i64 ((j:Nat):Int)))::(23,sV (.int .i64 ((i:Nat):Int)))::E3 o r) h.rel ?_ rfl rfl fun a w' R hb => ?_)))
 ·repeat' ((conv=>whnf);first|(with_reducible first|refine br_t ?_|refine br_f ?_|refine za ?_|refine zg ?_)|refine xg (own_get o) rfl ?_|refine xi (pure_index (ty_ok 30 _ rfl) hxR rfl ⟨by omega,by omega⟩) ?_|refine xi (pure_field (ty_ok 54 _ rfl) rfl rfl (by decide)) ?_|refine zp ?_|refine zq ?_|(with_reducible first|refine bc (fun h => ?_) (fun h => ?_)|refine zt ?_|refine zf ?_|refine br_i (fun h => ?_) (fun h => ?_))|refine zg ?_|refine zi ?_|refine zb ?_)
  all_goals conv=>whnf
  all_goals rfl
 replace h:=h.next R hb
 replace hv:=hv.below hb
 refine wp_load1 (ty_ok 52 _ rfl) rfl rfl (relS_val h.rel rfl) (vc_cell hv) ?_
 replace h:=h.put (d:=101) (v:=.slice (o.ms i).1 (o.ms i).2.1 (o.ms i).2.2) (by decide) rfl trivial
 rcases Nat.lt_or_ge j (o.ms i).2.1 with hlt|hge
 ·refine segE ty_ok 7 (103::24::23::ks3) ((103,sV (.bool true))::(24,sV (.int .i64 ((j:Nat):Int)))::(23,sV (.int .i64 ((i:Nat):Int)))::E3 o r) h.rel ?_ fun a w' R hb => ?_
  ·rw [← decide_eq_true (show ((j:Nat):Int)<(((o.ms i).2.1:Nat):Int) by omega)]
   repeat' ((conv=>whnf);first|(with_reducible first|refine br_t ?_|refine br_f ?_|refine za ?_|refine zg ?_)|refine xi (pure_len (ty_ok 52 _ rfl) rfl rfl rfl rfl (by omega)) ?_|refine zp ?_|refine zq ?_|(with_reducible first|refine bc (fun h => ?_) (fun h => ?_)|refine zt ?_|refine zf ?_|refine br_i (fun h => ?_) (fun h => ?_))|refine zg ?_|refine zi ?_|refine zb ?_)
   all_goals conv=>whnf
   all_goals rfl
  replace h:=h.next R hb
  replace hv:=hv.below hb
  refine segF (by kernel_rfl) ty_ok .normal (24::23::ks3) ((24,sV (.int .i64 ((j:Nat):Int)))::(23,sV (.int .i64 ((i:Nat):Int)))::E3 o r) h.rel ?_ fun a w' R hb => ?_
  ·exact zw
  replace h:=h.next R hb
  replace hv:=hv.below hb
  refine wp_seq (wp_block (regN (segR ty_ok 0 5 _ (110::24::23::ks3) ((110,sV (.pointer (some ⟨bR,fR+i*6+5,none⟩)))::(24,sV (.int .i64 ((j:Nat):Int)))::(23,sV (.int .i64 ((i:Nat):Int)))::E3 o r) h.rel ?_ rfl rfl fun a w' R hb => ?_)))
  ·repeat' ((conv=>whnf);first|(with_reducible first|refine br_t ?_|refine br_f ?_|refine za ?_|refine zg ?_)|refine xg (own_get o) rfl ?_|refine xi (pure_index (ty_ok 30 _ rfl) hxR rfl ⟨by omega,by omega⟩) ?_|refine xi (pure_field (ty_ok 54 _ rfl) rfl rfl (by decide)) ?_|refine zp ?_|refine zq ?_|(with_reducible first|refine bc (fun h => ?_) (fun h => ?_)|refine zt ?_|refine zf ?_|refine br_i (fun h => ?_) (fun h => ?_))|refine zg ?_|refine zi ?_|refine zb ?_)
   all_goals conv=>whnf
   all_goals rfl
  replace h:=h.next R hb
  replace hv:=hv.below hb
  refine wp_load1 (ty_ok 52 _ rfl) rfl rfl (relS_val h.rel rfl) (vc_cell hv) ?_
  replace h:=h.put (d:=111) (v:=.slice (o.ms i).1 (o.ms i).2.1 (o.ms i).2.2) (by decide) rfl trivial
  obtain ⟨b,off,hx,hc⟩:=(h.shp.m i hi).1 j hlt
  refine segR ty_ok 6 3 _ (111::112::114::24::23::ks3) ((111,sV (.slice (o.ms i).1 (o.ms i).2.1 (o.ms i).2.2))::(112,sV (.int .i64 ((j:Nat):Int)))::(114,sV (.pointer (some ⟨b,off+j*4+2,none⟩)))::(24,sV (.int .i64 ((j:Nat):Int)))::(23,sV (.int .i64 ((i:Nat):Int)))::E3 o r) h.rel ?_ rfl rfl fun a w' R hb => ?_
  ·repeat' ((conv=>whnf);first|(with_reducible first|refine br_t ?_|refine br_f ?_|refine za ?_|refine zg ?_)|refine xi (pure_index (ty_ok 52 _ rfl) hx rfl ⟨by omega,by omega⟩) ?_|refine xi (pure_field (ty_ok 56 _ rfl) rfl rfl (by decide)) ?_|refine zp ?_|refine zq ?_|(with_reducible first|refine bc (fun h => ?_) (fun h => ?_)|refine zt ?_|refine zf ?_|refine br_i (fun h => ?_) (fun h => ?_))|refine zg ?_|refine zi ?_|refine zb ?_)
   all_goals conv=>whnf
   all_goals rfl
  replace h:=h.next R hb
  replace hc:=hc.below hb
  obtain ⟨m,h1,h2,cs,h3,h4⟩:=ic_cell hc
  refine wp_load1 (ty_ok 3 _ rfl) rfl rfl (relS_val h.rel rfl) h1 ?_
  replace h:=h.put (d:=115) (v:=.int .i64 m) (by decide) rfl h2
  refine segR ty_ok 10 3 _ (116::118::24::23::ks3) ((116,sV (.int .i64 (IntKind.i64.wrap (m+1))))::(118,sV (.pointer (some ⟨b,off+j*4+2,none⟩)))::(24,sV (.int .i64 ((j:Nat):Int)))::(23,sV (.int .i64 ((i:Nat):Int)))::E3 o r) h.rel ?_ rfl rfl fun a w' R hb => ?_
  ·repeat' ((conv=>whnf);first|(with_reducible first|refine br_t ?_|refine br_f ?_|refine za ?_|refine zg ?_)|refine xi (pure_index (ty_ok 52 _ rfl) hx rfl ⟨by omega,by omega⟩) ?_|refine xi (pure_field (ty_ok 56 _ rfl) rfl rfl (by decide)) ?_|refine zp ?_|refine zq ?_|(with_reducible first|refine bc (fun h => ?_) (fun h => ?_)|refine zt ?_|refine zf ?_|refine br_i (fun h => ?_) (fun h => ?_))|refine zg ?_|refine zi ?_|refine zb ?_)
   all_goals conv=>whnf
   all_goals rfl
  replace h:=h.next R hb
  replace hc:=hc.below hb
  obtain ⟨m',_,_,cs,h3,h4⟩:=ic_cell hc
  refine wp_store1 (ty_ok 3 _ rfl) rfl rfl rfl (relS_val h.rel rfl) (relS_val h.rel rfl) h3 h4 ?_
  replace h:=h.poke hS (inK_wrap .i64 (m+1)) hc
  have hw:IntKind.i64.wrap (((j:Nat):Int)+1)=((j+1:Nat):Int):=by rw [IntWalk.i64_in _ (by omega)];omega
  refine segF (by kernel_rfl) ty_ok .normal (24::23::ks3) ((24,sV (.int .i64 ((j+1:Nat):Int)))::(23,sV (.int .i64 ((i:Nat):Int)))::E3 o r) h.rel ?_ fun a w' R hb => ?_
  ·rw [← hw]
   exact zw
  exact ⟨_,by omega,j+1,hlt,rfl,h.next R hb⟩
 ·obtain rfl:j=(o.ms i).2.1:=by omega
  refine segE ty_ok 7 (103::24::23::ks3) ((103,sV (.bool false))::(24,sV (.int .i64 (((o.ms i).2.1:Nat):Int)))::(23,sV (.int .i64 ((i:Nat):Int)))::E3 o r) h.rel ?_ fun a w' R hb => ?_
  ·rw [← decide_eq_false (show ¬ (((o.ms i).2.1:Nat):Int)<(((o.ms i).2.1:Nat):Int) by omega)]
   repeat' ((conv=>whnf);first|(with_reducible first|refine br_t ?_|refine br_f ?_|refine za ?_|refine zg ?_)|refine xi (pure_len (ty_ok 52 _ rfl) rfl rfl rfl rfl (by omega)) ?_|refine zp ?_|refine zq ?_|(with_reducible first|refine bc (fun h => ?_) (fun h => ?_)|refine zt ?_|refine zf ?_|refine br_i (fun h => ?_) (fun h => ?_))|refine zg ?_|refine zi ?_|refine zb ?_)
   all_goals conv=>whnf
   all_goals rfl
  replace h:=h.next R hb
  refine segF (by kernel_rfl) ty_ok (.exit 4) (23::ks3) ((23,sV (.int .i64 ((i:Nat):Int)))::E3 o r) h.rel ?_ fun a w' R hb => ?_
  ·exact zw
  exact hQ _ _ (h.next R hb)
theorem parts_loop2 {S M:Nat→Prop} {s:Nat} {w0 w:World} {o:Ow} {r:Rst} {a:Act} (hS:∀ b,S b→M b∧s≤b) (hl:o.lR≤1000000) (h:LpI S M s w0 o (E3 o r) a w) {Q:Exit→Act→World→Prop} (hQ:∀ a' w',LpI S M s w0 o (E3 o r) a' w'→Q .normal a' w'):(cdA pt10).wp Tryz.prog Q a w:=by
 have eL:cdA pt10=.seq (cdA (cdA pt10)) (.block 2 (.loop (.seq (.seq (cdA (cdA (cdL (cdK (cdB (cdA pt10)))))) (.cond (.tmp 92) .skip (.exit 2))) (.seq (.block 3 (cdK (cdA (cdB (cdL (cdK (cdB (cdA pt10)))))))) (cdB (cdB (cdL (cdK (cdB (cdA pt10)))))))))):=rfl
 rw [eL]
 refine wp_seq (segF (by kernel_rfl) ty_ok .normal (23::ks3) ((23,sV (.int .i64 ((0:Nat):Int)))::E3 o r) h.rel ?_ fun a w' R hb => ?_)
 ·exact zw
 replace h:=h.next R hb
 refine wp_block (wp_loopG (fun n a w=>∃ i,i≤o.lR∧n=o.lR-i∧LpI S M s w0 o ((23,sV (.int .i64 ((i:Nat):Int)))::E3 o r) a w) ⟨0,Nat.zero_le _,rfl,h⟩ ?_)
 clear h
 rintro n a w ⟨i,hi,rfl,h⟩
 rcases Nat.lt_or_ge i o.lR with hlt|hge
 ·refine wp_seq (segF (by kernel_rfl) ty_ok .normal (23::ks3) ((23,sV (.int .i64 ((i:Nat):Int)))::E3 o r) h.rel ?_ fun a w' R hb => ?_)
  ·repeat' ((conv=>whnf);first|(with_reducible first|refine br_t ?_|refine br_f ?_|refine za ?_|refine zg ?_)|refine xg (own_get o) rfl ?_|refine xi (pure_len (ty_ok 30 _ rfl) rfl rfl rfl rfl (by omega)) ?_|refine zp ?_|refine zq ?_|(with_reducible first|refine bc (fun h => ?_) (fun h => ?_)|refine zt ?_|refine zf ?_|refine br_i (fun h => ?_) (fun h => ?_))|refine zg ?_|refine zi ?_|refine zb ?_)
   all_goals conv=>whnf
   all_goals rfl
  refine wp_seq (wp_block (parts_loop2i hS hlt hl (h.next R hb) fun a w h => ?_))
  have hw:IntKind.i64.wrap (((i:Nat):Int)+1)=((i+1:Nat):Int):=by rw [IntWalk.i64_in _ (by omega)];omega
  refine segF (by kernel_rfl) ty_ok .normal (23::ks3) ((23,sV (.int .i64 ((i+1:Nat):Int)))::E3 o r) h.rel ?_ fun a w' R hb => ?_
  ·rw [← hw]
   exact zw
  exact ⟨_,by omega,i+1,hlt,rfl,h.next R hb⟩
 ·obtain rfl:i=o.lR:=by omega
  refine wp_seq (segF (by kernel_rfl) ty_ok (.exit 2) ks3 (E3 o r) h.rel ?_ fun a w' R hb => ?_)
  ·repeat' ((conv=>whnf);first|(with_reducible first|refine br_t ?_|refine br_f ?_|refine za ?_|refine zg ?_)|refine xg (own_get o) rfl ?_|refine xi (pure_len (ty_ok 30 _ rfl) rfl rfl rfl rfl (by omega)) ?_|refine zp ?_|refine zq ?_|(with_reducible first|refine bc (fun h => ?_) (fun h => ?_)|refine zt ?_|refine zf ?_|refine br_i (fun h => ?_) (fun h => ?_))|refine zg ?_|refine zi ?_|refine zb ?_)
   all_goals conv=>whnf
   all_goals rfl
  exact hQ _ _ (h.next R hb)
end Go.Proofs.YtddbmpbihpkabaaGreat

namespace Go.Proofs.YtddbmpbihpkabaaGreat
open Go Go.RowKit Go.Sort Sx
namespace Sx
section
variable {P:Program} {C M0 M M':Nat→Prop} {w0 w w':World} {sz:Nat} {ρ:Nat→Nm} {E:Env} {H:Hp} {a:Act} {S:Nat→Prop}
theorem relS_call (R:RelS sz M E a w) (hb:Below w.heap.size w w') (hM:Lo w' M') (hMM:∀ b,b<w.heap.size→M' b→M b) {d:Nat} (hd:d<sz) {x:SV} {v:Value} (hx:SVR (fun _=>default) w' M' x v) (hn:x.names=[]):RelS sz M' ((d,x)::E) (a.put (some d) v) w':=by
 refine relS_mk (by rw [put_defers];exact R.defers) (by rw [put_size];exact R.size) hM fun t y h => ?_
 rw [look_cons] at h
 split at h
 ·rename_i e;subst e
  injection h with h;subst h
  rw [put_same (by rw [R.size];exact hd)]
  exact ⟨hx,hn⟩
 ·rename_i e
  rw [put_other (by simpa using e)]
  obtain ⟨h1,h2⟩:=relS_get R h
  exact ⟨h1.mono (.of_below hb) hMM,h2⟩
theorem mof_lo (R:Rel C M0 w0 sz ρ E H a w) (hC:∀ b,C b→w0.heap.size≤b) {b:Nat} (hb:b<w0.heap.size) (h:Mof M ρ H b):M b:=by
 rcases h with h|⟨n,x,h1,h2,h3⟩
 ·exact h
 ·rcases R.lo n x h1 h2 with h4|h4
  ·omega
  ·have:=hC _ h4.1;omega
theorem lo_sub (h:Lo w M) (hs:∀ b,M' b→M b):Lo w M':=⟨fun b hb=>h.lt b (hs b hb),h.gd,fun b hb=>h.ge b (hs b hb)⟩
theorem mof_sub (hs:∀ b,M' b→M b) {b:Nat} (h:Mof M' ρ H b):Mof M ρ H b:=h.imp (hs b) id
theorem lit_agg {us:List Value} {v:Value} (h:SVR ρ w M (.c (.agg (us.map fun u=>.d (.v u)))) v):v=.agg us.toArray:=by
 obtain ⟨vs,rfl,h⟩:=h
 have key:∀ (us vs:List Value),AtsR ρ w M (us.map fun u=>.d (.v u)) vs→vs=us:=by
  intro us
  induction us with
  | nil=>intro vs h;cases vs with|nil=>rfl|cons=>exact h.elim
  | cons u us ih =>
   intro vs h
   cases vs with
   | nil=>exact h.elim
   | cons v vs =>
    have h1:Rep w M (.v u) v:=h.1
    rw [ih vs h.2]
    cases h1;rfl
 rw [key us vs h]
theorem agg_ds {ds:List D} {v:Value} (h:SVR ρ w M (.c (.agg (ds.map .d))) v):DCR w M (.agg ds) v:=by
 obtain ⟨vs,e,h⟩:=h
 exact ⟨vs,e,DsR.ats.2 h⟩
theorem dvr_lit {us:List Value} {ds:List D} (h:DsR w M ds us) {ρ':Nat→Nm} {w':World} {M':Nat→Prop}:SVR ρ' w' M' (.c (.agg (us.map fun u=>.d (.v u)))) (.agg us.toArray):=by
 refine ⟨us,rfl,?_⟩
 have key:∀ (ds:List D) (us:List Value),DsR w M ds us→AtsR ρ' w' M' (us.map fun u=>.d (.v u)) us:=by
  intro ds
  induction ds with
  | nil=>intro us h;cases us with|nil=>trivial|cons=>exact h.elim
  | cons d ds ih =>
   intro us h
   cases us with
   | nil=>exact h.elim
   | cons u us=>exact ⟨rep_self h.1,ih us h.2⟩
 exact key ds us h
theorem names_lit (us:List Value):SV.names (.c (.agg (us.map fun u=>.d (.v u))))=[]:=by
 have:(us.map fun u=>At.d (.v u))=(us.map D.v).map .d:=by rw [List.map_map];rfl
 rw [this]
 exact names_map_d _
theorem nums_of {α:Type} {f:α→List D} {L:List α} {k j:Nat} {n0:Nat→Prop} {v:Value} (h:Hue w M true n0 (.list k (L.map f)) v) (hf:∀ a∈L,∃ (m:Int) (hj:j<(f a).length),(f a)[j]=.v (.int .i64 m)) (hS:∀ b,b<w.heap.size→¬ n0 b→S b) :
  ∃ x c,v=.slice x L.length c∧L.length≤c∧c≤9223372036854775807∧Nums S w x L.length k j:=by
 obtain ⟨x,c,rfl,hc,hlc,hi⟩:=hue_slice h
 have hl:(L.map f).length=L.length:=List.length_map ..
 refine ⟨x,c,by rw [hl],by omega,hc,fun i hlt => ?_⟩
 obtain ⟨b,off,hx,hM,hn,hb,hcs,hk,hj⟩:=hi i (by omega)
 obtain ⟨cs,hcs⟩:=hcs rfl
 obtain ⟨m,hjl,he⟩:=hf L[i] (List.getElem_mem hlt)
 have e:(L.map f)[i]'(by omega)=f L[i]:=by rw [List.getElem_map]
 obtain ⟨y,h1,h2⟩:=hj j (by rw [e];exact hjl)
 have e2:((L.map f)[i]'(by omega))[j]'(by rw [e];exact hjl)=.v (.int .i64 m):=by simp only [e];exact he
 rw [e2] at h2
 have h3:=hue_wf h2
 obtain rfl:=hue_int h2
 exact ⟨b,off,hx,hS b hb hn,hb,cs,m,hcs,by rw [cell_of hcs] at h1;exact h1,h3⟩
end
end Sx
theorem i64_in {M:Nat→Prop} {w:World} {n:Int} {v:Value} (h:Rep w M (i64 n) v):v=.int .i64 n∧inK .i64 n:=rep_int h
theorem shp_of {x:Lg} {w:World} {M n0 S:Nat→Prop} {us:List Value} (h:DsR w M [i64 x.s.n,i64 x.s.d,.hue true n0 (pts x.s.l),.hue true n0 (aks x.al),.hue true n0 (rps x.rs)] us) (hS:∀ b,b<w.heap.size→¬ n0 b→S b) (hm:∀ r∈x.rs,r.ms.length≤1000000) :
  ∃ o:Ow,us=[.int .i64 o.n,.int .i64 o.d,.slice o.xP o.lP o.kP,.slice o.xA o.lA o.kA,.slice o.xR o.lR o.kR]∧Shp S w o.xP o.lP o.xA o.lA o.xR o.lR o.ms∧o.lP=x.s.l.length∧o.lA=x.al.length∧o.lR=x.rs.length:=by
 match us,h with
 | [u1,u2,u3,u4,u5],⟨h1,h2,h3,h4,h5,_⟩ =>
  obtain ⟨rfl,_⟩:=i64_in h1
  obtain ⟨rfl,_⟩:=i64_in h2
  cases h3 with|hue _ _ h3 =>
  cases h4 with|hue _ _ h4 =>
  cases h5 with|hue _ _ h5 =>
  obtain ⟨xP,kP,rfl,_,_,nP⟩:=nums_of (S:=S) (j:=1) h3 (fun p _=>⟨p.a,Nat.le_of_ble_eq_true rfl,rfl⟩) hS
  obtain ⟨xA,kA,rfl,_,_,nA⟩:=nums_of (S:=S) (j:=4) h4 (fun p _=>⟨p.id,Nat.le_of_ble_eq_true rfl,rfl⟩) hS
  obtain ⟨xR,kR,rfl,_,_,hi⟩:=hue_slice h5
  have hl:(x.rs.map Rp.c).length=x.rs.length:=List.length_map ..
  have key:∀ i,∃ m:Option Addr × Nat × Nat,i<x.rs.length→(∃ b off,xR=some ⟨b,off,none⟩∧VC S w b (off+i*6+5) m.1 m.2.1 m.2.2)∧Nums S w m.1 m.2.1 4 2∧m.2.1≤1000000:=fun i=>by
   rcases Nat.lt_or_ge i x.rs.length with hlt|hge
   ·obtain ⟨b,off,hx,hM,hn,hb,hcs,hk,hj⟩:=hi i (by omega)
    obtain ⟨cs,hcs⟩:=hcs rfl
    have e:(x.rs.map Rp.c)[i]'(by omega)=Rp.c x.rs[i]:=by rw [List.getElem_map]
    obtain ⟨y,h1,h2⟩:=hj 5 (by rw [e];exact Nat.lt_succ_self 5)
    have e2:((x.rs.map Rp.c)[i]'(by omega))[5]'(by rw [e];exact Nat.lt_succ_self 5)=mts x.rs[i].ms:=by simp only [e];rfl
    rw [e2] at h2
    obtain ⟨xm,km,rfl,_,_,nm⟩:=nums_of (S:=S) (j:=2) h2 (fun p _=>⟨p.i,Nat.le_of_ble_eq_true rfl,rfl⟩) hS
    exact ⟨(xm,x.rs[i].ms.length,km),fun _=>⟨⟨b,off,hx,hS b hb hn,hb,cs,hcs,by rw [cell_of hcs] at h1;exact h1⟩,nm,hm _ (List.getElem_mem hlt)⟩⟩
   ·exact ⟨(none,0,0),fun h=>by omega⟩
  obtain ⟨ms,hms⟩:=Classical.axiomOfChoice key
  exact ⟨⟨x.s.n,x.s.d,xP,x.s.l.length,kP,xA,x.al.length,kA,xR,x.rs.length,kR,ms⟩,by rw [hl],⟨nP,nA,fun i h=>(hms i h).1,fun i h=>(hms i h).2⟩,rfl,rfl,rfl⟩
section
variable {w:World} {M S:Nat→Prop}
theorem far_rep {d:D} {v:Value} (h:Rep w M (.hue false S d) v):Rep w (fun b=>M b∨S b) d v:=by cases h with|hue _ _ h=>exact hue_far h
theorem flat_to {M':Nat→Prop} {x v:Value} (h:Rep w M (.v x) v):Rep w M' (.v x) v:=by cases h with|v _ h hw=>exact .v _ h hw
theorem far_md {m:Md} {v:Value} (h:DCR w M (m.hu false S) v):DCR w (fun b=>M b∨S b) m.dc v:=by
 obtain ⟨us,e,h⟩:=h
 match us,h with
 | [_,_,_],⟨h1,h2,h3,_⟩=>exact ⟨_,e,flat_to h1,flat_to h2,far_rep h3,trivial⟩
theorem far_lg {x:Lg} {v:Value} (h:DCR w M (x.hu false S) v):DCR w (fun b=>M b∨S b) x.dc v:=by
 obtain ⟨us,e,h⟩:=h
 match us,h with
 | [_,_,_,_,_],⟨h1,h2,h3,h4,h5,_⟩=>exact ⟨_,e,flat_to h1,flat_to h2,far_rep h3,far_rep h4,far_rep h5,trivial⟩
end
end Go.Proofs.YtddbmpbihpkabaaGreat

namespace Go.Proofs.YtddbmpbihpkabaaGreat
open Go.RowKit Go.Sort Sx
set_option maxRecDepth 2000
def gr37 (m:Md) (l:List Ak):Bool:=great m.l || decide (20<l.length∧l.length≤120∨130<l.length)
theorem gr37_ok {m:Md} {l:List Ak} (h:gr37 m l=false):m.l.length≤70∧l.length≤130∧(l.length≤20∨120<l.length):=by
 unfold gr37 at h
 rw [Bool.or_eq_false_iff] at h
 have h1:=h.1
 have h2:=of_decide_eq_false h.2
 unfold great at h1
 have h1:=of_decide_eq_false h1
 omega
def lgreat (x:Lg):Bool:=(x.rs.take 131).any (fun r=>decide (300<r.ms.length)) || (gr37 x.s x.al || decide (130<x.rs.length))
theorem any_take {x:Lg} {i:Nat} (h:i<x.rs.length):(x.rs.take (i+1)).any (fun r=>decide (300<r.ms.length))=((x.rs.take i).any (fun r=>decide (300<r.ms.length)) || decide (300<x.rs[i].ms.length)):=by
 rw [List.take_succ_eq_append_getElem h,List.any_append];simp
theorem GLgreat_fn (x:Lg):FnOK Tryz.prog 4 [x.dc] (.c (.one (bol (lgreat x)))):=by
 have HG:FnOK Tryz.prog 14 [x.s.dc,.one (aks x.al)] (.c (.one (bol (gr37 x.s x.al)))):=rqGreat_fn x.s x.al
 have hrl:(x.rs.map Rp.c).length=x.rs.length:=List.length_map ..
 unfold lgreat
 generalize gr37 x.s x.al=g at *
 refine fn_ok (by kernel_rfl) ty_ok Tryz.func4 rfl (fun _ _=>Tryz.call4 _ _) rfl ?_
 intro hw
 simp only [WDCs,WDC,WDs] at hw
 have w2:x.rs.length≤9223372036854775807:=wd_rps hw.1.2.2.2.2.1
 have wM:∀ r∈x.rs,r.ms.length≤9223372036854775807:=fun r hr=>by
  obtain ⟨_,_,h3⟩:=WD_list.1 hw.1.2.2.2.2.1
  have h4:=h3 r.c (List.mem_map_of_mem hr) (mts r.ms) (by simp [Rp.c])
  obtain ⟨h5,_,_⟩:=WD_list.1 h4
  simpa using h5
 clear hw
 repeat' ((conv=>whnf);first|(with_reducible first|refine br_t ?_|refine br_f ?_|refine za ?_|refine zg ?_)|refine zp ?_|refine zq ?_|(with_reducible first|refine bc (fun h => ?_) (fun h => ?_)|refine zt ?_|refine zf ?_|refine br_i (fun h => ?_) (fun h => ?_))|refine zg ?_|refine zi ?_|refine zb ?_)
 refine loop_J (by kernel_rfl) ty_ok (σ:=Nat) (fun i=>[(3,sV (.int .i64 i))]) (fun _=>[]) (fun i=>i≤x.rs.length∧i≤131∧(x.rs.take i).any (fun r=>decide (300<r.ms.length))=false) (fun i=>131-i) 0 ⟨Nat.zero_le _,by omega,by simp⟩ ?_ ?_
 ·(conv=>whnf);exact zent
 rintro i ⟨hi,hi2,hI⟩
 rcases Nat.lt_or_ge i x.rs.length with hlt|hge
 ·rcases Nat.lt_or_ge i 131 with h131|h131
  ·have g2:=rps_get hlt
   have hw:=wM _ (List.getElem_mem hlt)
   have hs:=any_take hlt
   rw [hI,Bool.false_or] at hs
   have hml:(x.rs[i].ms.map Mt.c).length=x.rs[i].ms.length:=List.length_map ..
   by_cases hc:300<x.rs[i].ms.length
   ·have e:(x.rs.take 131).any (fun r=>decide (300<r.ms.length))=true:=by
     rw [List.any_eq_true]
     refine ⟨x.rs[i],?_,by simpa using hc⟩
     rw [List.mem_take_iff_getElem]
     exact ⟨i,by omega,rfl⟩
    rw [e]
    clear hs e
    generalize x.rs[i]=r at *
    repeat' ((conv=>whnf);first|(with_reducible first|refine br_t ?_|refine br_f ?_|refine za ?_|refine zg ?_)|rw [hrl]|rw [hml]|refine zp ?_|refine zq ?_|(with_reducible first|refine bc (fun h => ?_) (fun h => ?_)|refine zt ?_|refine zf ?_|refine br_i (fun h => ?_) (fun h => ?_))|refine zg ?_|refine zi ?_|refine zb ?_)
    all_goals conv=>whnf
    all_goals rfl
   ·rw [decide_eq_false hc] at hs
    generalize x.rs[i]=r at *
    repeat' ((conv=>whnf);first|(with_reducible first|refine br_t ?_|refine br_f ?_|refine za ?_|refine zg ?_)|rw [hrl]|rw [hml]|refine zp ?_|refine zq ?_|(with_reducible first|refine bc (fun h => ?_) (fun h => ?_)|refine zt ?_|refine zf ?_|refine br_i (fun h => ?_) (fun h => ?_))|refine zg ?_|refine zi ?_|refine zb ?_)
    all_goals conv=>whnf
    refine ⟨i+1,⟨by omega,by omega,hs⟩,?_,by omega⟩
    (conv=>whnf);exact zent
  ·obtain rfl:i=131:=by omega
   rw [hI]
   cases g
   all_goals
    repeat' ((conv=>whnf);first|(with_reducible first|refine br_t ?_|refine br_f ?_|refine za ?_|refine zg ?_)|rw [hrl]|refine zp ?_|refine zq ?_|(with_reducible first|refine bc (fun h => ?_) (fun h => ?_)|refine zt ?_|refine zf ?_|refine br_i (fun h => ?_) (fun h => ?_))|refine zg ?_|refine zi ?_|refine zb ?_)
    all_goals conv=>whnf
    all_goals exact r_bool (by simp;try omega)
 ·have e:x.rs.take 131=x.rs.take i:=by rw [List.take_of_length_le (by omega),List.take_of_length_le hge]
  rw [e,hI]
  cases g
  all_goals
   repeat' ((conv=>whnf);first|(with_reducible first|refine br_t ?_|refine br_f ?_|refine za ?_|refine zg ?_)|rw [hrl]|refine zp ?_|refine zq ?_|(with_reducible first|refine bc (fun h => ?_) (fun h => ?_)|refine zt ?_|refine zf ?_|refine br_i (fun h => ?_) (fun h => ?_))|refine zg ?_|refine zi ?_|refine zb ?_)
   all_goals conv=>whnf
   all_goals exact r_bool (by simp;try omega)
end Go.Proofs.YtddbmpbihpkabaaGreat
