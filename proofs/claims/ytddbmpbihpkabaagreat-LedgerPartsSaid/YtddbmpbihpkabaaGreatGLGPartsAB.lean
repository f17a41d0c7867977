import Derived.WalkKit
import Derived.Lib.Hide
import Derived.Test.YtddbmpbihpkabaaGreatGLGPartsAA
set_option linter.all false
namespace Go.Proofs.YtddbmpbihpkabaaGreat
open Go Go.RowKit
namespace Sx
inductive D where
 | v (x:Value)
 | nil (k:Nat)
 | emp (k:Nat)
 | list (k:Nat) (l:List (List D))
 | ref (l:List D)
 | clo (g:Nat) (caps:List (List D))
 | hue (u:Bool) (n:Nat→Prop) (x:D)
 deriving Inhabited
def inK:IntKind→Int→Prop
 | .i8,n => -128≤n∧n≤127
 | .i16,n => -32768≤n∧n≤32767
 | .i32,n => -2147483648≤n∧n≤2147483647
 | .i64,n => -9223372036854775808≤n∧n≤9223372036854775807
 | .u8,n=>0≤n∧n≤255
 | .u16,n=>0≤n∧n≤65535
 | .u32,n=>0≤n∧n≤4294967295
 | .u64,n=>0≤n∧n≤18446744073709551615
instance (k:IntKind) (n:Int):Decidable (inK k n):=by cases k<;>unfold inK<;>infer_instance
theorem inK_iff (k:IntKind) (n:Int):inK k n↔k.min≤n∧n≤k.max:=by
 cases k<;>simp [inK,IntKind.min,IntKind.max,IntKind.signed,IntKind.bits]
theorem inK_wrap (k:IntKind) (n:Int):inK k (k.wrap n):=(inK_iff k _).2 (wrap_within k n)
def wfV:Value→Prop
 | .int k n=>inK k n
 | _=>True
def wfB:Value→Bool
 | .int k n=>decide (inK k n)
 | _=>true
theorem wfB_iff {v:Value} (h:wfB v=true):wfV v:=by
 cases v<;>first|trivial|exact of_decide_eq_true (p:=inK _ _) h
def CellsAt (w:World) (b:Nat) (cs:List Value):Prop:=∃ T,w.heap[b]? = some (.cells cs.toArray T (0,0))
def Ev (n:Nat→Prop) (w:World):Prop:=∀ b,n b→b<w.heap.size
inductive Hue (w:World) (M:Nat→Prop) (u:Bool) (n:Nat→Prop):D→Value→Prop where
 | v (x:Value) (hn:Ev n w) (h:x.oneCell'=true) (hw:wfV x):Hue w M u n (.v x) x
 | nil (k:Nat) (x:Option Addr) (c:Nat) (hm:c≤9223372036854775807) (hx:x=none→c=0):Hue w M u n (.list k []) (.slice x 0 c)
 | list {b off cap k:Nat} {l:List (List D)} (vs:Nat→Nat→Value) (hc:l.length≤cap) (hm:cap≤9223372036854775807) (hM:¬ M b) (hn:¬ n b) (hb:b<w.heap.size) (hf:u=true→∃ cs,CellsAt w b cs) (hk:∀ x∈l,x.length=k)
   (hv:∀ i j,(hi:i<l.length)→j<k→w.cell? ⟨b,off+i*k+j,none⟩=some (vs i j))
   (hr:∀ i j,(hi:i<l.length)→(hj:j<l[i].length)→Hue w M u n l[i][j] (vs i j)) :
   Hue w M u n (.list k l) (.slice (some ⟨b,off,none⟩) l.length cap)
inductive Rep (w:World) (M:Nat→Prop):D→Value→Prop where
 | v (x:Value) (h:x.oneCell'=true) (hw:wfV x):Rep w M (.v x) x
 | nl (k:Nat):Rep w M (.nil k) (.slice none 0 0)
 | em (k:Nat) (x:Addr) (c:Nat) (hm:c≤9223372036854775807):Rep w M (.emp k) (.slice (some x) 0 c)
 | nil (k:Nat) (x:Option Addr) (c:Nat) (hm:c≤9223372036854775807) (hx:x=none→c=0):Rep w M (.list k []) (.slice x 0 c)
 | list {b off cap k:Nat} {l:List (List D)} (vs:Nat→Nat→Value) (hc:l.length≤cap) (hm:cap≤9223372036854775807) (hM:¬ M b) (hb:b<w.heap.size) (hk:∀ x∈l,x.length=k)
   (hv:∀ i j,(hi:i<l.length)→j<k→w.cell? ⟨b,off+i*k+j,none⟩=some (vs i j))
   (hr:∀ i j,(hi:i<l.length)→(hj:j<l[i].length)→Rep w M l[i][j] (vs i j)) :
   Rep w M (.list k l) (.slice (some ⟨b,off,none⟩) l.length cap)
 | ref {b off:Nat} {l:List D} (vs:Nat→Value) (hM:¬ M b) (hb:b<w.heap.size) (hv:∀ j,j<l.length→w.cell? ⟨b,off+j,none⟩=some (vs j)) (hr:∀ j,(hj:j<l.length)→Rep w M l[j] (vs j)) :
   Rep w M (.ref l) (.pointer (some ⟨b,off,none⟩))
 | clo {g:Nat} {caps:List (List D)} (ps:Nat→Value) (hr:∀ i,(hi:i<caps.length)→Rep w M (.ref caps[i]) (ps i)):Rep w M (.clo g caps) (.func (.func g) #[] ((List.range caps.length).map ps).toArray)
 | hue (u:Bool) (n:Nat→Prop) {x:D} {v:Value} (h:Hue w M u n x v):Rep w M (.hue u n x) v
structure Holds (M:Nat→Prop) (w w':World):Prop where
 size:w.heap.size≤w'.heap.size
 block:∀ b,b<w.heap.size→¬ M b→(∃ cs T f,w.heap[b]? = some (.cells cs T f))→w'.heap[b]? = w.heap[b]?
theorem Holds.refl (M:Nat→Prop) (w:World):Holds M w w:=⟨Nat.le_refl _,fun _ _ _ _=>rfl⟩
theorem Holds.of_below {M:Nat→Prop} {w w':World} (h:Below w.heap.size w w'):Holds M w w':=⟨h.size,fun b hb _ _=>h.block b hb⟩
theorem Holds.cell {M:Nat→Prop} {w w':World} (h:Holds M w w') {b o:Nat} {v:Value} (hb:b<w.heap.size) (hM:¬ M b) (hc:w.cell? ⟨b,o,none⟩=some v):w'.cell? ⟨b,o,none⟩=some v:=by
 have:∃ cs T f,w.heap[b]? = some (.cells cs T f):=by
  unfold World.cell? at hc
  cases ho:w.heap[b]? with
  | none=>simp [ho] at hc
  | some o=>cases o<;>first|exact ⟨_,_,_,rfl⟩|(simp [ho] at hc)
 rw [World.cell?_of_block (w:=w) (h.block b hb hM this)];exact hc
theorem Hue.mono {w w':World} {M M':Nat→Prop} {u:Bool} {n:Nat→Prop} {d:D} {v:Value} (h:Hue w M u n d v) (hw:Holds M w w') (hM:∀ b,b<w.heap.size→M' b→M b):Hue w' M' u n d v:=by
 induction h with
 | v x hn h hw'=>exact .v x (fun b hb=>Nat.lt_of_lt_of_le (hn b hb) hw.size) h hw'
 | nil k x c hm hx=>exact .nil k x c hm hx
 | @list b off cap k l vs hc hm hMb hn hb hf hk hv hr ih =>
  refine .list vs hc hm (fun h=>hMb (hM b hb h)) hn (Nat.lt_of_lt_of_le hb hw.size) (fun e => ?_) hk (fun i j hi hj=>hw.cell hb hMb (hv i j hi hj)) ih
  obtain ⟨cs,T,hT⟩:=hf e
  exact ⟨cs,T,by rw [hw.block b hb hMb ⟨_,_,_,hT⟩];exact hT⟩
theorem Hue.rep {w:World} {M:Nat→Prop} {u:Bool} {n:Nat→Prop} {d:D} {v:Value} (h:Hue w M u n d v):Rep w M d v:=by
 induction h with
 | v x hn h hw=>exact .v x h hw
 | nil k x c hm hx=>exact .nil k x c hm hx
 | @list b off cap k l vs hc hm hMb hn hb hf hk hv hr ih=>exact .list vs hc hm hMb hb hk hv ih
theorem Hue.oneCell {w:World} {M:Nat→Prop} {u:Bool} {n:Nat→Prop} {d:D} {v:Value} (h:Hue w M u n d v):v.oneCell'=true:=by
 cases h<;>first|rfl|assumption
theorem Rep.mono {w w':World} {M M':Nat→Prop} {d:D} {v:Value} (h:Rep w M d v) (hw:Holds M w w') (hM:∀ b,b<w.heap.size→M' b→M b):Rep w' M' d v:=by
 induction h with
 | v x h hw=>exact .v x h hw
 | nl k=>exact .nl k
 | em k x c hm=>exact .em k x c hm
 | nil k x c hm hx=>exact .nil k x c hm hx
 | ref vs hMb hb hv hr ih =>
  exact .ref vs (fun h=>hMb (hM _ hb h)) (Nat.lt_of_lt_of_le hb hw.size) (fun j hj=>hw.cell hb hMb (hv j hj)) ih
 | clo ps hr ih=>exact .clo ps ih
 | hue u n h=>exact .hue u n (h.mono hw hM)
 | @list b off cap k l vs hc hm hMb hb hk hv hr ih =>
  exact .list vs hc hm (fun h=>hMb (hM b hb h)) (Nat.lt_of_lt_of_le hb hw.size) hk (fun i j hi hj=>hw.cell hb hMb (hv i j hi hj)) ih
inductive At where
 | d (x:D)
 | ptr (n o:Nat)
 | osl (n ver:Nat)
 | rp (n ver k i o:Nat)
 | ep (k:Nat) (l:List (List D)) (i o:Nat)
 | fn (f:Nat) (caps:List Nat)
 | ifp (t:TypeId) (n o:Nat)
 | asl (n len:Nat)
 | zsl (k:Nat)
 deriving Inhabited
inductive SC where
 | at (a:At)
 | agg (l:List At)
 deriving Inhabited
inductive SV where
 | c (x:SC)
 | tup (l:List SC)
 deriving Inhabited
structure Nm where
 own:Bool
 b:Nat
 cap:Nat
 len:Nat
 ver:Nat
 deriving Inhabited
def RowAt (w:World) (M:Nat→Prop) (b off k:Nat) (l:List (List D)):Prop :=
 ∃ cap,Rep w M (.list k l) (.slice (some ⟨b,off,none⟩) l.length cap)
def AtR (ρ:Nat→Nm) (w:World) (M:Nat→Prop):At→Value→Prop
 | .d x,v=>Rep w M x v
 | .ptr n o,v=>(ρ n).own=true∧v=.pointer (some ⟨(ρ n).b,o,none⟩)
 | .osl n ver,v=>(ρ n).own=false∧v.oneCell'=true∧ver≤(ρ n).ver∧(ver=(ρ n).ver→∃ x,v=.slice x (ρ n).len (ρ n).cap∧(0<(ρ n).cap→x=some ⟨(ρ n).b,0,none⟩))
 | .rp n ver k i o,v=>(ρ n).own=false∧v.oneCell'=true∧ver≤(ρ n).ver∧(ver=(ρ n).ver→v=.pointer (some ⟨(ρ n).b,i*k+o,none⟩))
 | .ep k l i o,v=>∃ b off,v=.pointer (some ⟨b,off+i*k+o,none⟩)∧RowAt w M b off k l
 | .fn f caps,v=>(∀ n∈caps,(ρ n).own=true)∧v=.func (.func f) #[] (caps.map fun n=>Value.pointer (some ⟨(ρ n).b,0,none⟩)).toArray
 | .ifp t n o,v=>(ρ n).own=true∧v=.iface t (.pointer (some ⟨(ρ n).b,o,none⟩))
 | .asl n len,v=>(ρ n).own=true∧v=.slice (some ⟨(ρ n).b,0,none⟩) len len
 | .zsl _,v=>∃ x,v=.slice x 0 0
def AtsR (ρ:Nat→Nm) (w:World) (M:Nat→Prop):List At→List Value→Prop
 | [],[]=>True
 | a::l,v::vs=>AtR ρ w M a v∧AtsR ρ w M l vs
 | _,_=>False
def SCR (ρ:Nat→Nm) (w:World) (M:Nat→Prop):SC→Value→Prop
 | .at a,v=>AtR ρ w M a v
 | .agg l,v=>∃ vs:List Value,v=.agg vs.toArray∧AtsR ρ w M l vs
def SCsR (ρ:Nat→Nm) (w:World) (M:Nat→Prop):List SC→List Value→Prop
 | [],[]=>True
 | a::l,v::vs=>SCR ρ w M a v∧SCsR ρ w M l vs
 | _,_=>False
def SVR (ρ:Nat→Nm) (w:World) (M:Nat→Prop):SV→Value→Prop
 | .c x,v=>SCR ρ w M x v
 | .tup l,v=>∃ vs:List Value,v=.tuple vs.toArray∧SCsR ρ w M l vs
inductive Blk where
 | own (cells:List At)
 | row (k:Nat) (l:List (List D)) (ver:Nat)
 | frz
 deriving Inhabited
def Blk.real:Blk→Nm→Bool
 | .own _,_=>true
 | .row _ _ _,m=>Nat.blt 0 m.cap
 | .frz,_=>false
def DsR (w:World) (M:Nat→Prop):List D→List Value→Prop
 | [],[]=>True
 | a::l,v::vs=>Rep w M a v∧DsR w M l vs
 | _,_=>False
def BlkC (ρ:Nat→Nm) (w:World) (M:Nat→Prop) (cs:List Value):Blk→Nm→Prop
 | .own cells,_=>AtsR ρ w M cells cs
 | .row k l _,m=>l.length≤m.cap∧m.cap≤9223372036854775807∧cs.length=m.cap*k∧∃ vs rest:List Value,cs=vs++rest∧DsR w M l.flatten vs
 | .frz,_=>True
def BlkS (w:World) (M:Nat→Prop):Blk→Nm→Prop
 | .own _,_=>True
 | .row k l ver,m=>(∀ x∈l,x.length=k)∧l.length=m.len∧(m.cap=0→l=[])∧m.ver=ver∧m.own=false
 | .frz,_=>True
def BlkR (ρ:Nat→Nm) (w:World) (M:Nat→Prop) (m:Nm) (x:Blk):Prop:=BlkS w M x m∧(x.real m=true→∃ cs,CellsAt w m.b cs∧BlkC ρ w M cs x m)
abbrev Env:=List (Nat × SV)
abbrev Hp:=List (Nat × Blk)
def look {α:Type}:List (Nat × α)→Nat→Option α
 | [],_=>none
 | (k,x)::r,t=>if k=t then some x else look r t
def Mof (M0:Nat→Prop) (ρ:Nat→Nm) (H:Hp) (b:Nat):Prop:=M0 b∨∃ n x,look H n=some x∧x.real (ρ n)=true∧(ρ n).b=b
def At.names:At→List Nat
 | .ptr n _|.osl n _|.rp n _ _ _ _=>[n]
 | .fn _ caps=>caps
 | .ifp _ n _|.asl n _=>[n]
 | _=>[]
def namesA (l:List At):List Nat:=l.flatMap At.names
def SC.names:SC→List Nat
 | .at a=>a.names
 | .agg l=>namesA l
def namesC (l:List SC):List Nat:=l.flatMap SC.names
def SV.names:SV→List Nat
 | .c x=>x.names
 | .tup l=>namesC l
def Blk.names:Blk→List Nat
 | .own cells=>namesA cells
 | .row _ _ _|.frz=>[]
structure BelowC (C:Nat→Prop) (n:Nat) (w w':World):Prop where
 os:w'.os=w.os
 tape:w'.tape=w.tape
 output:w'.output=w.output
 size:w.heap.size≤w'.heap.size
 block:∀ k,k<n→¬ C k→w'.heap[k]? = w.heap[k]?
 drawn:C n∨w.drawn≤w'.drawn
theorem BelowC.refl (C:Nat→Prop) (n:Nat) (w:World):BelowC C n w w:=⟨rfl,rfl,rfl,Nat.le_refl _,fun _ _ _=>rfl,.inr (Nat.le_refl _)⟩
theorem BelowC.trans {C:Nat→Prop} {n:Nat} {w w' w'':World} (h:BelowC C n w w') (k:BelowC C n w' w''):BelowC C n w w'' :=
 ⟨k.os.trans h.os,k.tape.trans h.tape,k.output.trans h.output,Nat.le_trans h.size k.size,fun b hb hC=>(k.block b hb hC).trans (h.block b hb hC),h.drawn.elim .inl fun h1=>k.drawn.elim .inl fun h2=>.inr (Nat.le_trans h1 h2)⟩
theorem BelowC.of_below {C:Nat→Prop} {n m:Nat} {w w':World} (h:Below m w w') (hn:n≤m) (hd:C n∨w.drawn≤w'.drawn):BelowC C n w w':=⟨h.os,h.tape,h.output,h.size,fun k hk _=>h.block k (Nat.lt_of_lt_of_le hk hn),hd⟩
theorem BelowC.below {C:Nat→Prop} {n:Nat} {w w':World} (h:BelowC C n w w') (hC:∀ k,k<n→¬ C k):Below n w w':=⟨h.os,h.tape,h.output,h.size,fun k hk=>h.block k hk (hC k hk)⟩
def Pin (C:Nat→Prop) (s n b:Nat):Prop:=b<s∧C (s+1+n*s+b)
theorem Pin.gt {C:Nat→Prop} {s n b:Nat} (h:Pin C s n b):∃ x,s<x∧C x:=⟨_,by rw [Nat.add_assoc,Nat.add_assoc];omega,h.2⟩
structure Lo (w:World) (M:Nat→Prop):Prop where
 lt:∀ b,M b→b<w.heap.size
 gd:Gd w
 ge:∀ b,M b→gl≤b
instance {w:World} {M:Nat→Prop}:CoeFun (Lo w M) (fun _=>∀ b,M b→b<w.heap.size):=⟨Lo.lt⟩
structure LoR (C M0:Nat→Prop) (w0:World):Prop where
 lt:∀ b,M0 b→b<w0.heap.size
 gd:Gd w0
 ge:∀ b,M0 b→gl≤b
 gc:∀ b,C b→gl≤b
instance {C M:Nat→Prop} {w:World}:CoeFun (LoR C M w) (fun _=>∀ b,M b→b<w.heap.size):=⟨LoR.lt⟩
structure Rel (C M0:Nat→Prop) (w0:World) (sz:Nat) (ρ:Nat→Nm) (E:Env) (H:Hp) (a:Act) (w:World):Prop where
 below:BelowC C w0.heap.size w0 w
 out:LoR C M0 w0
 env:∀ t x,look E t=some x→SVR ρ w (Mof M0 ρ H) x (a.tmps.getD t undef)
 lo:∀ n b,look H n=some b→b.real (ρ n)=true→w0.heap.size≤(ρ n).b∨(C (ρ n).b∧(ρ n).own=true)
 hi:∀ n b,look H n=some b→b.real (ρ n)=true→(ρ n).b<w.heap.size
 blk:∀ n b,look H n=some b→BlkR ρ w (Mof M0 ρ H) (ρ n) b
 inj:∀ n n' b b',look H n=some b→look H n'=some b'→b.real (ρ n)=true→b'.real (ρ n')=true→(ρ n).b=(ρ n').b→n=n'
 defers:a.defers=[]
 size:a.tmps.size=sz
 pin:∀ n b,Pin C w0.heap.size n b→1000≤n∧sz≤1000∧(ρ n).own=true∧(ρ n).b=b
 clE:∀ t x,look E t=some x→∀ n∈x.names,(look H n).isSome=true
 clH:∀ n b,look H n=some b→∀ m∈b.names,(look H m).isSome=true
section
variable {ρ:Nat→Nm} {w w':World} {M M':Nat→Prop}
theorem AtR.mono (hw:Holds M w w') (hM:∀ b,b<w.heap.size→M' b→M b):∀ {a:At} {v:Value},AtR ρ w M a v→AtR ρ w' M' a v
 | .d x,v,h=>Rep.mono h hw hM
 | .ptr n o,v,h=>h
 | .osl n len,v,h=>h
 | .rp n len k i o,v,h=>h
 | .ep k l i o,v,⟨b,off,e,cap,h⟩=>⟨b,off,e,cap,h.mono hw hM⟩
 | .fn f caps,v,h=>h
 | .ifp t n o,v,h=>h
 | .asl n len,v,h=>h
 | .zsl k,v,h=>h
theorem AtsR.mono (hw:Holds M w w') (hM:∀ b,b<w.heap.size→M' b→M b):∀ {a:List At} {v:List Value},AtsR ρ w M a v→AtsR ρ w' M' a v
 | [],[],_=>trivial
 | a::l,v::vs,h=>⟨h.1.mono hw hM,AtsR.mono hw hM h.2⟩
 | [],_::_,h=>h.elim
 | _::_,[],h=>h.elim
theorem SCR.mono (hw:Holds M w w') (hM:∀ b,b<w.heap.size→M' b→M b):∀ {a:SC} {v:Value},SCR ρ w M a v→SCR ρ w' M' a v
 | .at a,v,h=>AtR.mono hw hM h
 | .agg l,v,⟨vs,e,h⟩=>⟨vs,e,h.mono hw hM⟩
theorem SCsR.mono (hw:Holds M w w') (hM:∀ b,b<w.heap.size→M' b→M b):∀ {a:List SC} {v:List Value},SCsR ρ w M a v→SCsR ρ w' M' a v
 | [],[],_=>trivial
 | a::l,v::vs,h=>⟨h.1.mono hw hM,SCsR.mono hw hM h.2⟩
 | [],_::_,h=>h.elim
 | _::_,[],h=>h.elim
theorem SVR.mono (hw:Holds M w w') (hM:∀ b,b<w.heap.size→M' b→M b):∀ {a:SV} {v:Value},SVR ρ w M a v→SVR ρ w' M' a v
 | .c a,v,h=>SCR.mono hw hM h
 | .tup l,v,⟨vs,e,h⟩=>⟨vs,e,h.mono hw hM⟩
theorem DsR.mono (hw:Holds M w w') (hM:∀ b,b<w.heap.size→M' b→M b):∀ {a:List D} {v:List Value},DsR w M a v→DsR w' M' a v
 | [],[],_=>trivial
 | a::l,v::vs,h=>⟨h.1.mono hw hM,DsR.mono hw hM h.2⟩
 | [],_::_,h=>h.elim
 | _::_,[],h=>h.elim
variable {ρ':Nat→Nm}
theorem AtR.rename:∀ {a:At} {v:Value},(∀ n∈a.names,ρ' n=ρ n)→AtR ρ w M a v→AtR ρ' w M a v
 | .d x,v,_,h=>h
 | .ptr n o,v,hn,h=>by simp only [AtR] at *;rw [hn n (by simp [At.names])];exact h
 | .osl n len,v,hn,h=>by simp only [AtR] at *;rw [hn n (by simp [At.names])];exact h
 | .rp n len k i o,v,hn,h=>by simp only [AtR] at *;rw [hn n (by simp [At.names])];exact h
 | .ep k l i o,v,_,h=>h
 | .fn f caps,v,hn,h=>by
  simp only [AtR] at *
  refine ⟨fun n hx=>by rw [hn n hx];exact h.1 n hx,?_⟩
  rw [h.2];congr 2
  exact List.map_congr_left fun n hx=>by rw [hn n hx]
 | .ifp t n o,v,hn,h=>by simp only [AtR] at *;rw [hn n (by simp [At.names])];exact h
 | .asl n len,v,hn,h=>by simp only [AtR] at *;rw [hn n (by simp [At.names])];exact h
 | .zsl k,v,hn,h=>h
theorem AtsR.rename:∀ {a:List At} {v:List Value},(∀ n∈namesA a,ρ' n=ρ n)→AtsR ρ w M a v→AtsR ρ' w M a v
 | [],[],_,_=>trivial
 | a::l,v::vs,hn,h=>⟨h.1.rename fun n hx=>hn n (by simp [namesA];exact .inl hx),AtsR.rename (fun n hx=>hn n (by simp [namesA] at *;exact .inr hx)) h.2⟩
 | [],_::_,_,h=>h.elim
 | _::_,[],_,h=>h.elim
theorem SCR.rename:∀ {a:SC} {v:Value},(∀ n∈a.names,ρ' n=ρ n)→SCR ρ w M a v→SCR ρ' w M a v
 | .at a,v,hn,h=>AtR.rename hn h
 | .agg l,v,hn,⟨vs,e,h⟩=>⟨vs,e,h.rename hn⟩
theorem SCsR.rename:∀ {a:List SC} {v:List Value},(∀ n∈namesC a,ρ' n=ρ n)→SCsR ρ w M a v→SCsR ρ' w M a v
 | [],[],_,_=>trivial
 | a::l,v::vs,hn,h=>⟨h.1.rename fun n hx=>hn n (by simp [namesC];exact .inl hx),SCsR.rename (fun n hx=>hn n (by simp [namesC] at *;exact .inr hx)) h.2⟩
 | [],_::_,_,h=>h.elim
 | _::_,[],_,h=>h.elim
theorem SVR.rename:∀ {a:SV} {v:Value},(∀ n∈a.names,ρ' n=ρ n)→SVR ρ w M a v→SVR ρ' w M a v
 | .c a,v,hn,h=>SCR.rename hn h
 | .tup l,v,hn,⟨vs,e,h⟩=>⟨vs,e,h.rename hn⟩
theorem BlkC.mono {ρ:Nat→Nm} (hw:Holds M w w') (hM:∀ b,b<w.heap.size→M' b→M b) {cs:List Value} {m:Nm}:∀ {x:Blk},BlkC ρ w M cs x m→BlkC ρ w' M' cs x m
 | .own cells,h=>AtsR.mono hw hM h
 | .row k l _,⟨h2,h3,h4,vs,rest,h5,h6⟩=>⟨h2,h3,h4,vs,rest,h5,h6.mono hw hM⟩
 | .frz,_=>trivial
theorem BlkC.rename {cs:List Value} {m:Nm}:∀ {x:Blk},(∀ n∈x.names,ρ' n=ρ n)→BlkC ρ w M cs x m→BlkC ρ' w M cs x m
 | .own cells,hn,h=>AtsR.rename hn h
 | .row k l _,hn,h=>h
 | .frz,hn,h=>h
theorem BlkS.mono (hw:Holds M w w') (hM:∀ b,b<w.heap.size→M' b→M b) {m:Nm}:∀ {x:Blk},BlkS w M x m→BlkS w' M' x m
 | .own cells,h=>trivial
 | .row k l _,h=>h
 | .frz,h=>h
end
end Sx
end Go.Proofs.YtddbmpbihpkabaaGreat

namespace Go.Proofs.YtddbmpbihpkabaaGreat
open Go Go.RowKit
namespace Sx
inductive TD where
 | sc (z:D)
 | st (n:Nat) (z:List D) (fs:List (Nat × Nat × Bool))
 | ar (n:Nat) (z:List D) (len ek:Nat) (eagg:Bool)
 | sl (ek:Nat) (eagg:Bool) (z:List D)
 | int (k:IntKind)
 | bool
 deriving Inhabited
def TD.size:TD→Nat
 | .sc _|.sl _ _ _|.int _|.bool=>1
 | .st n _ _|.ar n _ _ _ _=>n
def TD.agg:TD→Bool
 | .sc _|.sl _ _ _|.int _|.bool=>false
 | .st ..|.ar ..=>true
def TD.zero:TD→List D
 | .sc z=>[z]
 | .st _ z _|.ar _ z _ _ _=>z
 | .sl k _ _=>[.nil k]
 | .int k=>[.v (.int k 0)]
 | .bool=>[.v (.bool false)]
structure Cfg where
 ty:List (Nat × TD)
 K:List Nat
 mu:List Nat
 co:List Nat
 me:List Nat
 dm:Bool
 hu:List Nat:=[]
 hn:Nat→Prop:=fun _=>False
inductive DC where
 | one (x:D)
 | agg (l:List D)
 deriving Inhabited
inductive DV where
 | c (x:DC)
 | tup (l:List DC)
 deriving Inhabited
def DCR (w:World) (M:Nat→Prop):DC→Value→Prop
 | .one x,v=>Rep w M x v
 | .agg l,v=>∃ vs:List Value,v=.agg vs.toArray∧DsR w M l vs
def DCsR (w:World) (M:Nat→Prop):List DC→List Value→Prop
 | [],[]=>True
 | a::l,v::vs=>DCR w M a v∧DCsR w M l vs
 | _,_=>False
def DVR (w:World) (M:Nat→Prop):DV→Value→Prop
 | .c x,v=>DCR w M x v
 | .tup l,v=>∃ vs:List Value,v=.tuple vs.toArray∧DCsR w M l vs
def FnOK (P:Program) (f:Nat) (args:List DC) (r:DV):Prop :=
 ∀ (w:World) (M:Nat→Prop) (vs:List Value),Lo w M→DCsR w M args vs →
  (∃ g,(callFunc f vs.toArray).run P w=.ok (.enter g vs.toArray) w∧Calls P g vs.toArray w fun e w'=>∃ v,e=.returned v∧DVR w' M r v∧Below w.heap.size w w') ∨
  (∃ v,(callFunc f vs.toArray).run P w=.ok (.value v) w∧DVR w M r v)
def FnD (P:Program) (f:Nat) (args:List DC) (r:DV):Prop :=
 ∀ (w:World) (M:Nat→Prop) (vs:List Value),Lo w M→DCsR w M args vs →
  (∃ g,(callFunc f vs.toArray).run P w=.ok (.enter g vs.toArray) w∧Calls P g vs.toArray w fun e w'=>∃ v,e=.returned v∧DVR w' M r v∧Below w.heap.size w w'∧w.drawn≤w'.drawn) ∨
  (∃ v,(callFunc f vs.toArray).run P w=.ok (.value v) w∧DVR w M r v)
theorem FnD.ok {P:Program} {f:Nat} {args:List DC} {r:DV} (h:FnD P f args r):FnOK P f args r:=fun w M vs hM hvs =>
 (h w M vs hM hvs).imp (fun ⟨g,hg,hc⟩=>⟨g,hg,hc.mono fun _ _ ⟨v,e,hv,hb,_⟩=>⟨v,e,hv,hb⟩⟩) fun h=>h
abbrev FnQ (dm:Bool) (P:Program) (f:Nat) (args:List DC) (r:DV):Prop:=match dm with|true=>FnD P f args r|false=>FnOK P f args r
def flatL:List D→Bool
 | []=>true
 | .v _::l=>flatL l
 | _::_=>false
def flatC:DC→Bool
 | .one x=>flatL [x]
 | .agg l=>flatL l
def flatCs:List DC→Bool
 | []=>true
 | c::l=>match flatC c with|true=>flatCs l|false=>false
def flatV:DV→Bool
 | .c x=>flatC x
 | .tup l=>flatCs l
def FnB (P:Program) (f:Nat) (args:List DC) (r:DV):Prop:=flatV r=true∧FnOK P f args r
def flaL:List D→Bool
 | []=>true
 | .v _::l=>flaL l
 | .list _ []::l=>flaL l
 | _::_=>false
def flaC:DC→Bool
 | .one x=>flaL [x]
 | .agg l=>flaL l
def flaCs:List DC→Bool
 | []=>true
 | c::l=>match flaC c with|true=>flaCs l|false=>false
def flaV:DV→Bool
 | .c x=>flaC x
 | .tup l=>flaCs l
def FnL (P:Program) (f:Nat) (args:List DC) (r:DV):Prop:=flaV r=true∧FnOK P f args r
def FnBD (P:Program) (f:Nat) (args:List DC) (r:DV):Prop:=flatV r=true∧FnD P f args r
abbrev FnBQ (dm:Bool) (P:Program) (f:Nat) (args:List DC) (r:DV):Prop:=match dm with|true=>FnBD P f args r|false=>FnB P f args r
def evc (n:Nat→Prop):List D→List D
 | x::r=>.hue true n x::r
 | []=>[]
def HueR (n:Nat→Prop) (xs l:List (List D)):Prop:=xs=l.map (evc n)∧∀ e∈l,flatL e=true∧e≠[]
structure OwnR where
 r:DV
 i:Nat
 j:Nat
 k:Nat
 l:List (List D)
def setAt {α:Type}:List α→Nat→α→List α
 | [],_,_=>[]
 | _::l,0,x=>x::l
 | y::l,n+1,x=>y::setAt l n x
def embC:DC→SC
 | .one (.ref l)=>.at (.ep l.length [l] 0 0)
 | .one x=>.at (.d x)
 | .agg l=>.agg (l.map .d)
def embV:DV→SV
 | .c x=>.c (embC x)
 | .tup l=>.tup (l.map embC)
def embOC (d:Nat) (x:DC) (j:Nat):SC :=
 match x with
 | .one _=>.at (.osl d 0)
 | .agg l=>.agg (setAt (l.map .d) j (.osl d 0))
def embO (d:Nat) (q:OwnR):SV :=
 match q.r with
 | .c x=>.c (embOC d x q.j)
 | .tup l=>match l[q.i]? with
  | some x=>.tup (setAt (l.map embC) q.i (embOC d x q.j))
  | none=>.tup []
def FnOwn (P:Program) (f:Nat) (args:List DC) (q:OwnR):Prop :=
 ∀ (w:World) (M:Nat→Prop) (vs:List Value),Lo w M→DCsR w M args vs →
  ∃ g,(callFunc f vs.toArray).run P w=.ok (.enter g vs.toArray) w∧Calls P g vs.toArray w fun e w'=>∃ v m,e=.returned v∧Below w.heap.size w w'∧m.own=false∧m.ver=0∧(0<m.cap→w.heap.size≤m.b∧m.b<w'.heap.size) ∧
   SVR (fun _=>m) w' (fun b=>M b∨0<m.cap∧b=m.b) (embO 0 q) v∧BlkR (fun _=>m) w' (fun b=>M b∨0<m.cap∧b=m.b) m (.row q.k q.l 0)
abbrev FnOwnQ (dm:Bool) (P:Program) (f:Nat) (args:List DC) (q:OwnR):Prop:=match dm with|true=>False|false=>FnOwn P f args q
def FnMu (P:Program) (f k:Nat) (l:List (List D)) (args:List DC) (l':List (List D)):Prop :=
 (∀ e∈l',flatL e=true)∧∀ (w:World) (M:Nat→Prop) (v:Value) (vs:List Value) (m:Nm),Lo w M→(0<m.cap→M m.b)→DCsR w M args vs→BlkR (fun _=>m) w M m (.row k l m.ver)→(∃ x,v=.slice x m.len m.cap∧(0<m.cap→x=some ⟨m.b,0,none⟩)) →
  ∃ g,(callFunc f (v::vs).toArray).run P w=.ok (.enter g (v::vs).toArray) w∧Calls P g (v::vs).toArray w fun e w'=>e=.returned (.tuple #[])∧BelowC (fun b=>0<m.cap∧b=m.b) w.heap.size w w' ∧
   BlkR (fun _=>m) w' M m (.row k l' m.ver)
def FnCon (P:Program) (f k:Nat) (l:List (List D)) (args:List DC) (l':List (List D)):Prop :=
 (∀ e∈l',flatL e=true)∧∀ (w:World) (M:Nat→Prop) (v:Value) (vs:List Value) (m:Nm),Lo w M→(0<m.cap→M m.b)→DCsR w M args vs→BlkR (fun _=>m) w M m (.row k l m.ver)→(∃ x,v=.slice x m.len m.cap∧(0<m.cap→x=some ⟨m.b,0,none⟩)) →
  ∃ g,(callFunc f (v::vs).toArray).run P w=.ok (.enter g (v::vs).toArray) w∧Calls P g (v::vs).toArray w fun e w'=>∃ u m',e=.returned u∧m'.own=false∧BelowC (fun b=>0<m.cap∧b=m.b) w.heap.size w w' ∧
   (0<m'.cap→(0<m.cap∧m'.b=m.b)∨(w.heap.size≤m'.b∧m'.b<w'.heap.size))∧BlkR (fun _=>m') w' M m' (.row k l' m'.ver)∧(∃ x,u=.slice x m'.len m'.cap∧(0<m'.cap→x=some ⟨m'.b,0,none⟩))
def FnMem (P:Program) (f:Nat) (args:List DC) (cs:List (List D)) (r:DV) (cs':List (List D)):Prop :=
 cs'.length=cs.length∧∀ (w:World) (M:Nat→Prop) (vs:List Value) (bs:List Nat),Lo w M→bs.length=cs.length→bs.Nodup→(∀ b∈bs,M b)→DCsR w M args vs →
  (∀ (i b:Nat) (ds:List D),bs[i]? = some b→cs[i]? = some ds→∃ us,CellsAt w b us∧DsR w M ds us) →
  ∃ g,(callFunc f (vs++bs.map fun b=>Value.pointer (some ⟨b,0,none⟩)).toArray).run P w=.ok (.enter g (vs++bs.map fun b=>Value.pointer (some ⟨b,0,none⟩)).toArray) w ∧
   Calls P g (vs++bs.map fun b=>Value.pointer (some ⟨b,0,none⟩)).toArray w fun e w'=>∃ v,e=.returned v∧DVR w' M r v∧BelowC (fun b=>b∈bs∨b=w.heap.size) w.heap.size w w' ∧
    ∀ (i b:Nat) (ds:List D),bs[i]? = some b→cs'[i]? = some ds→∃ us,CellsAt w' b us∧DsR w' M ds us
def FnClo (P:Program) (f:Nat) (args:List DC) (g:Nat) (cs:List D):Prop :=
 ∀ (w:World) (M:Nat→Prop) (vs:List Value),Lo w M→DCsR w M args vs →
  ∃ h,(callFunc f vs.toArray).run P w=.ok (.enter h vs.toArray) w∧Calls P h vs.toArray w fun e w'=>∃ b,e=.returned (.func (.func g) #[] #[.pointer (some ⟨b,0,none⟩)])∧Below w.heap.size w w'∧w.heap.size≤b∧b<w'.heap.size ∧
   ∃ us,CellsAt w' b us∧DsR w' (fun x=>M x∨x=b) cs us
structure br (b:Bool) (A B:Prop):Prop where
 t:b=true→A
 f:b=false→B
theorem br_i {b:Bool} {A B:Prop} (h1:b=true→A) (h2:b=false→B):br b A B:=⟨h1,h2⟩
theorem br_t {A B:Prop} (h:A):br true A B:=⟨fun _=>h,fun h=>(by cases h)⟩
theorem br_f {A B:Prop} (h:B):br false A B:=⟨fun h=>(by cases h),fun _=>h⟩
theorem br_t' {b:Bool} {A B:Prop} (e:b=true) (h:A):br b A B:=⟨fun _=>h,fun h=>(by rw [e] at h;cases h)⟩
theorem br_f' {b:Bool} {A B:Prop} (e:b=false) (h:B):br b A B:=⟨fun h=>(by rw [e] at h;cases h),fun _=>h⟩
theorem brd_t {p:Prop} [Decidable p] {A B:Prop} (e:p) (h:A):br (decide p) A B:=br_t' (decide_eq_true e) h
theorem brd_f {p:Prop} [Decidable p] {A B:Prop} (e:¬ p) (h:B):br (decide p) A B:=br_f' (decide_eq_false e) h
theorem brd {p:Prop} [Decidable p] {A B:Prop} (h1:p→A) (h2:¬ p→B):br (decide p) A B:=⟨fun e=>h1 (of_decide_eq_true e),fun e=>h2 (of_decide_eq_false e)⟩
inductive Eff where
 | val (x:SV)
 | new (n:Nat) (b:Blk) (x:SV)
 | put (n:Nat) (b:Blk)
 | many (l:List (Nat × Blk)) (x:SV)
 deriving Inhabited
inductive SR where
 | fail
 | ret (x:Eff)
 | ob (p:Prop) (x:Eff)
 | exV (p:Value→Prop) (x:Value→Eff)
 | exL (p:List D→Prop) (x:List D→Eff)
 | exD (p:DV→Prop) (x:DV→Eff)
 | exO (p:OwnR→Prop) (x:OwnR→Eff)
 | exR (p:List (List D)→Prop) (x:List (List D)→Eff)
 | exM (p:DV→List (List D)→Prop) (x:DV→List (List D)→Eff)
 | spl (b:Bool) (x y:Eff)
def SR.run:SR→(Eff→Prop)→Prop
 | .fail,_=>False
 | .ret x,k=>k x
 | .ob p x,k=>p∧k x
 | .exV p x,k=>∃ a,p a∧k (x a)
 | .exL p x,k=>∃ a,p a∧k (x a)
 | .exD p x,k=>∃ a,p a∧k (x a)
 | .exO p x,k=>∃ a,p a∧k (x a)
 | .exR p x,k=>∃ a,p a∧k (x a)
 | .exM p x,k=>∃ a b,p a b∧k (x a b)
 | .spl b x y,k=>br b (k x) (k y)
def SR.has:SR→Eff→Prop
 | .fail,_=>False
 | .ret x,y=>x=y
 | .ob p x,y=>p∧x=y
 | .exV p x,y=>∃ a,p a∧x a=y
 | .exL p x,y=>∃ a,p a∧x a=y
 | .exD p x,y=>∃ a,p a∧x a=y
 | .exO p x,y=>∃ a,p a∧x a=y
 | .exR p x,y=>∃ a,p a∧x a=y
 | .exM p x,y=>∃ a b,p a b∧x a b=y
 | .spl b x y,z=>(b=true∧x=z)∨(b=false∧y=z)
theorem SR.run_has {r:SR} {k:Eff→Prop} (h:r.run k):∃ x,r.has x∧k x:=by
 cases r with
 | fail=>exact h.elim
 | ret x=>exact ⟨x,rfl,h⟩
 | ob p x=>exact ⟨x,⟨h.1,rfl⟩,h.2⟩
 | exV p x=>obtain ⟨a,h1,h2⟩:=h;exact ⟨x a,⟨a,h1,rfl⟩,h2⟩
 | exL p x=>obtain ⟨a,h1,h2⟩:=h;exact ⟨x a,⟨a,h1,rfl⟩,h2⟩
 | exD p x=>obtain ⟨a,h1,h2⟩:=h;exact ⟨x a,⟨a,h1,rfl⟩,h2⟩
 | exO p x=>obtain ⟨a,h1,h2⟩:=h;exact ⟨x a,⟨a,h1,rfl⟩,h2⟩
 | exR p x=>obtain ⟨a,h1,h2⟩:=h;exact ⟨x a,⟨a,h1,rfl⟩,h2⟩
 | exM p x=>obtain ⟨a,b,h1,h2⟩:=h;exact ⟨x a b,⟨a,b,h1,rfl⟩,h2⟩
 | spl b x y=>cases b with
  | true=>exact ⟨x,.inl ⟨rfl,rfl⟩,h.t rfl⟩
  | false=>exact ⟨y,.inr ⟨rfl,rfl⟩,h.f rfl⟩
def sD (x:D):SV:=.c (.at (.d x))
def sV (x:Value):SV:=.c (.at (.d (.v x)))
def normD:D→D
 | .nil k=>.list k []
 | .emp k=>.list k []
 | x=>x
def atsD? : List At→Option (List D)
 | []=>some []
 | .d x::l=>match atsD? l with
  | some r=>match x with
   | .nil k=>some (.list k []::r)
   | .emp k=>some (.list k []::r)
   | .v y=>some (.v y::r)
   | .list k y=>some (.list k y::r)
   | .ref y=>some (.ref y::r)
   | .clo f y=>some (.clo f y::r)
   | .hue u m y=>some (.hue u m y::r)
  | none=>none
 | _::_=>none
def capsD (h:Nat→Option Blk):List Nat→Option (List (List D))
 | []=>some []
 | n::r=>match h n with
  | some (.own cs)=>match atsD? cs,capsD h r with|some ds,some rs=>some (ds::rs)|_,_=>none
  | _=>none
def argOf (h:Nat→Option Blk):SV→Option DC
 | .c (.at (.d x))=>match x with
  | .nil k=>some (.one (.list k []))
  | .emp k=>some (.one (.list k []))
  | .v y=>some (.one (.v y))
  | .list k y=>some (.one (.list k y))
  | .ref y=>some (.one (.ref y))
  | .clo f y=>some (.one (.clo f y))
  | .hue u m y=>some (.one (.hue u m y))
 | .c (.at (.osl n v))=>match h n with
  | some (.row k [] v')=>match Nat.beq v v' with|true=>some (.one (.list k []))|false=>none
  | _=>none
 | .c (.at (.fn f caps))=>match capsD h caps with|some cs=>some (.one (.clo f cs))|none=>none
 | .c (.agg l)=>match atsD? l with|some r=>some (.agg r)|none=>none
 | _=>none
def argsOf (h:Nat→Option Blk):List (Option SV)→Option (List DC)
 | []=>some []
 | some x::l=>match argOf h x,argsOf h l with|some a,some r=>some (a::r)|_,_=>none
 | none::_=>none
def atsL (h:Nat→Option Blk):List At→Option (List D)
 | []=>some []
 | .osl n v::l=>match h n,atsL h l with
  | some (.row k r v'),some ds=>match Nat.beq v v' with|true=>some (.list k r::ds)|false=>none
  | _,_=>none
 | a::l=>match atsD? [a],atsL h l with|some [d],some ds=>some (d::ds)|_,_=>none
def argL (h:Nat→Option Blk):SV→Option DC
 | .c (.at (.osl n v))=>match h n with
  | some (.row k l v')=>match Nat.beq v v' with|true=>some (.one (.list k l))|false=>none
  | _=>none
 | .c (.agg l)=>match atsL h l with|some r=>some (.agg r)|none=>none
 | x=>argOf h x
def argsL (h:Nat→Option Blk):List (Option SV)→Option (List DC)
 | []=>some []
 | some x::l=>match argL h x,argsL h l with|some a,some r=>some (a::r)|_,_=>none
 | none::_=>none
def lend1:Option SV→Bool
 | some (.c (.at (.fn _ (_::_))))=>true
 | _=>false
def lendB:List (Option SV)→Bool
 | []=>false
 | y::l=>match lend1 y with|true=>true|false=>lendB l
def refL:List (List D)→Option (List DC)
 | []=>some []
 | c::cs=>match refL cs with|some r=>some (.one (.ref c)::r)|none=>none
def catL:List DC→List (List D)→Option (List DC)
 | [],cs=>refL cs
 | a::l,cs=>match catL l cs with|some r=>some (a::r)|none=>none
def nrmL:List D→Option (List D)
 | []=>some []
 | x::l=>match nrmL l with
  | some r=>match x with
   | .nil k=>some (.list k []::r)
   | .emp k=>some (.list k []::r)
   | .v y=>some (.v y::r)
   | .list k y=>some (.list k y::r)
   | .ref y=>some (.ref y::r)
   | .clo f y=>some (.clo f y::r)
   | .hue u m y=>some (.hue u m y::r)
  | none=>none
def zipB:List Nat→List (List D)→List (Nat × Blk)
 | n::l,c::cs=>(n,.own (c.map .d))::zipB l cs
 | _,_=>[]
def nodB:List Nat→Bool
 | []=>true
 | n::l=>match l.contains n with|true=>false|false=>nodB l
def refsC:List (List D)→List DC
 | []=>[]
 | l::r=>.one (.ref l)::refsC r
def srcL (k:Nat) (h:Nat→Option Blk):SV→Option (List (List D))
 | .c (.at (.d (.list k' l)))=>match Nat.beq k' k with|true=>some l|false=>none
 | .c (.at (.d (.nil _)))=>some []
 | .c (.at (.d (.emp _)))=>some []
 | .c (.at (.d (.v (.slice none 0 0))))=>some []
 | .c (.at (.osl n v))=>match h n with
  | some (.row k' l v')=>match Nat.beq v v',Nat.beq k' k with|true,true=>some l|_,_=>none
  | _=>none
 | _=>none
def nilS:SV→Bool
 | .c (.at (.d (.nil _)))=>true
 | .c (.at (.d (.v (.slice none 0 0))))=>true
 | _=>false
def memB (n:Nat):List Nat→Bool
 | []=>false
 | m::l=>match Nat.beq n m with|true=>true|false=>memB n l
def keepB (K:List Nat):Option Nat→Bool
 | some d=>memB d K
 | none=>false
def cellsC:SC→List At
 | .at a=>[a]
 | .agg l=>l
def partA (agg:Bool) (l:List At) (off n:Nat):Option SC :=
 if agg then if Nat.ble (off+n) l.length then some (.agg ((l.drop off).take n)) else none
 else match l.drop off with|a::_=>some (.at a)|[]=>none
def setL {α:Type}:List α→Nat→List α→List α
 | l,_,[]=>l
 | [],_,_=>[]
 | _::cs,0,x::xs=>x::setL cs 0 xs
 | c::cs,n+1,xs=>c::setL cs n xs
def atsV? : List At→Option (List Value)
 | []=>some []
 | .d (.v x)::l=>match atsV? l with|some r=>some (x::r)|none=>none
 | _::_=>none
def svV? : SV→Option Value
 | .c (.at (.d (.v x)))=>some x
 | .c (.agg l)=>match atsV? l with|some r=>some (.agg r.toArray)|none=>none
 | _=>none
def binI (op:BinOp) (k:IntKind) (x y:Int):Option Value :=
 match op with
 | .add=>some (.int k (k.wrap (x+y)))
 | .sub=>some (.int k (k.wrap (x-y)))
 | .mul=>some (.int k (k.wrap (x*y)))
 | .eql=>some (.bool (x == y))
 | .neq=>some (.bool (x != y))
 | .lss=>some (.bool (x<y))
 | .leq=>some (.bool (x≤y))
 | .gtr=>some (.bool (x > y))
 | .geq=>some (.bool (x ≥ y))
 | .and=>some (.int k (k.wrap (BitVec.ofInt k.bits x &&& BitVec.ofInt k.bits y).toNat))
 | .or=>some (.int k (k.wrap (BitVec.ofInt k.bits x ||| BitVec.ofInt k.bits y).toNat))
 | .xor=>some (.int k (k.wrap (BitVec.ofInt k.bits x ^^^ BitVec.ofInt k.bits y).toNat))
 | _=>none
def sameK:IntKind→IntKind→Bool
 | .i8,.i8|.i16,.i16|.i32,.i32|.i64,.i64|.u8,.u8|.u16,.u16|.u32,.u32|.u64,.u64=>true
 | _,_=>false
def maxI (x y:Int):Int:=if y > x then y else x
def minI (x y:Int):Int:=if y<x then y else x
def retD (sz:Nat) (dst:Option Nat) (x:SV):SR :=
 match dst with
 | some d=>match Nat.blt d sz with|true=>.ret (.val x)|false=>.fail
 | none=>.fail
def guardD (sz:Nat) (dst:Option Nat) (r:SR):SR :=
 match dst with
 | some d=>match Nat.blt d sz with|true=>r|false=>.fail
 | none=>.fail
def unD (op:UnOp) (v:Value):Option Value :=
 match op,v with
 | .neg,.int k n=>some (.int k (k.wrap (0-n)))
 | .not,.bool b=>some (.bool !b)
 | _,_=>none
def PureOp (P:Program) (o:Oper) (us:List Value) (v:Value):Prop :=
 v.oneCell'=true∧wfV v∧∀ (f:Operand→Value),o.op.operands.toList.map f=us→∀ w,(execOp f o).run P w=.ok (.value v) w
def svsV? : List (Option SV)→Option (List Value)
 | []=>some []
 | some x::l=>match svV? x,svsV? l with|some v,some r=>some (v::r)|_,_=>none
 | none::_=>none
def isNil:D→Option Bool
 | .nil _=>some true
 | .emp _=>some false
 | .list _ (_::_)=>some false
 | _=>none
def bndI:Option SV→Option Int
 | some (.c (.at (.d (.v (.int _ i)))))=>some i
 | _=>none
def stepC (P : Program) (Γ : Cfg) (sz : Nat) (o : Oper) (c : Call) (vals : List (Option SV)) (h : Nat → Option Blk) (fresh : Bool) : SR :=
  match c, vals with
  | { callee := .value _, .. }, some (.c (.at (.fn f caps))) :: vs =>
    match memB f Γ.mu with
    | true => match caps, vs with
      | [], some (.c (.at (.osl n v))) :: r => match h n, argsOf h r with
        | some (.row k l v'), some args => match Nat.beq v v' with
          | true => guardD sz o.dst (.exR (fun l' => FnMu P f k l args l') fun l' => .new n (.row k l' v') (.tup []))
          | false => .fail
        | _, _ => .fail
      | _, _ => .fail
    | false => match memB f Γ.co with
     | true => match caps, vs with
      | [], some (.c (.at (.osl n v))) :: r => match h n, argsOf h r with
        | some (.row k l v'), some args => match Nat.beq v v' with
          | true => guardD sz o.dst (.exR (fun l' => FnCon P f k l args l') fun l' => .new n (.row k l' (v + 1)) (.c (.at (.osl n (v + 1)))))
          | false => .fail
        | _, _ => .fail
      | _, _ => .fail
     | false => match memB f Γ.me with
     | true => match argsOf h vs, capsD h caps with
      | some args, some cs => match lendB vs, nodB caps, Γ.dm with
        | false, true, false => match caps with
          | [] => match o.dst, fresh with
            | some d, true => guardD sz o.dst (.exO (fun q => FnClo P f args q.k (q.l.headD [])) fun q => .new d (.own ((q.l.headD []).map .d)) (.c (.at (.fn q.k [d]))))
            | _, _ => .fail
          | [n] => guardD sz o.dst (.exM (fun r cs' => FnMem P f args cs r cs') fun r cs' => .new n (.own ((cs'.headD []).map .d)) (embV r))
          | _ :: _ :: _ => guardD sz o.dst (.exM (fun r cs' => FnMem P f args cs r cs') fun r cs' => .many (zipB caps cs') (embV r))
        | _, _, _ => .fail
      | _, _ => .fail
     | false => match argsOf h vs, capsD h caps with
      | some args, some cs => match cs with
        | [] => match lendB vs with
          | true => guardD sz o.dst (.exD (fun r => FnBQ Γ.dm P f args r) fun r => .val (embV r))
          | false => match keepB Γ.K o.dst with
            | true => match o.dst, fresh with
              | some d, true => guardD sz o.dst (.exO (fun q => FnOwnQ Γ.dm P f args q) fun q => .new d (.row q.k q.l 0) (embO d q))
              | _, _ => .fail
            | false => guardD sz o.dst (.exD (fun r => FnQ Γ.dm P f args r) fun r => .val (embV r))
        | _ => match catL args cs with
          | some args => guardD sz o.dst (.exD (fun r => FnBQ Γ.dm P f args r) fun r => .val (embV r))
          | none => .fail
      | none, some [] => match argsL h vs, Γ.dm with
        | some args, false => guardD sz o.dst (.exD (fun r => FnL P f args r) fun r => .val (embV r))
        | _, _ => .fail
      | _, _ => .fail
  | { callee := .value _, .. }, some (.c (.at (.d (.clo f cs)))) :: vs =>
    match argsOf h vs with
    | some args => match catL args cs with
      | some args => match lendB vs with
        | true => guardD sz o.dst (.exD (fun r => FnBQ Γ.dm P f args r) fun r => .val (embV r))
        | false => guardD sz o.dst (.exD (fun r => FnQ Γ.dm P f args r) fun r => .val (embV r))
      | none => .fail
    | none => .fail
  | { callee := .builtin .append, argTypes := ts, .. }, [some s, some x] =>
    match look Γ.ty (ts[0]?.getD 0), look Γ.ty (ts[1]?.getD 0), Nat.beq ts.size 2 with
    | some (.sl k _ _), some (.sl _ _ _), true => match srcL k h x, nilS s with
      | some xs, true => match keepB Γ.K o.dst with
        | true => match o.dst, fresh with
          | some d, true => guardD sz o.dst (.ob (xs.length ≤ 1000000) (.new d (.row k xs 0) (.c (.at (.osl d 0)))))
          | _, _ => .fail
        | false => guardD sz o.dst (.ob (xs.length ≤ 1000000) (.val (sD (.list k xs))))
      | some xs, false => match s with
        | .c (.at (.osl n v)) => match h n with
          | some (.row k' l v') => match Nat.beq k' k, Nat.beq v v' with
            | true, true => match keepB Γ.K o.dst with
              | true => guardD sz o.dst (.ob ((l ++ xs).length ≤ 1000000) (.new n (.row k (l ++ xs) (v + 1)) (.c (.at (.osl n (v + 1))))))
              | false => guardD sz o.dst (.ob ((l ++ xs).length ≤ 1000000) (.new n .frz (sD (.list k (l ++ xs)))))
            | _, _ => .fail
          | _ => .fail
        | .c (.at (.zsl _)) => match keepB Γ.hu o.dst with
          | true => guardD sz o.dst (.exR (fun l' => xs.length ≤ 1000000 ∧ HueR Γ.hn xs l') fun l' => .val (sD (.hue true Γ.hn (.list k l'))))
          | false => .fail
        | _ => .fail
      | none, _ => .fail
    | _, _, _ => .fail
  | { callee := .builtin .len, argTypes := ts, .. }, [some (.c (.at (.d (.list k l))))] =>
    match look Γ.ty (ts[0]?.getD 0) with
    | some (.sl _ _ _) => match Nat.blt 0 ts.size with
      | true => retD sz o.dst (sV (.int .i64 l.length))
      | false => .fail
    | _ => .fail
  | { callee := .builtin .len, argTypes := ts, .. }, [some (.c (.at (.d (.emp k))))] =>
    match look Γ.ty (ts[0]?.getD 0) with
    | some (.sl _ _ _) => match Nat.blt 0 ts.size with
      | true => retD sz o.dst (sV (.int .i64 0))
      | false => .fail
    | _ => .fail
  | { callee := .builtin .len, argTypes := ts, .. }, [some (.c (.at (.d (.nil k))))] =>
    match look Γ.ty (ts[0]?.getD 0) with
    | some (.sl _ _ _) => match Nat.blt 0 ts.size with
      | true => retD sz o.dst (sV (.int .i64 0))
      | false => .fail
    | _ => .fail
  | { callee := .builtin .len, argTypes := ts, .. }, [some (.c (.at (.osl n v)))] =>
    match look Γ.ty (ts[0]?.getD 0), h n with
    | some (.sl _ _ _), some (.row k l v') => match Nat.blt 0 ts.size, Nat.beq v v' with
      | true, true => retD sz o.dst (sV (.int .i64 l.length))
      | _, _ => .fail
    | _, _ => .fail
  | { callee := .builtin .max, .. }, [some (.c (.at (.d (.v (.int k a))))), some (.c (.at (.d (.v (.int k' b)))))] => match sameK k k' with
    | true => retD sz o.dst (sV (.int k (maxI a b)))
    | false => .fail
  | { callee := .builtin .max, .. }, [some (.c (.at (.d (.v (.int k a))))), some (.c (.at (.d (.v (.int k' b))))), some (.c (.at (.d (.v (.int k'' c)))))] => match sameK k k', sameK k k'' with
    | true, true => retD sz o.dst (sV (.int k (maxI (maxI a b) c)))
    | _, _ => .fail
  | { callee := .builtin .min, .. }, [some (.c (.at (.d (.v (.int k a))))), some (.c (.at (.d (.v (.int k' b)))))] => match sameK k k' with
    | true => retD sz o.dst (sV (.int k (minI a b)))
    | false => .fail
  | _, vs => match svsV? vs with
    | some us => guardD sz o.dst (.exV (fun v => PureOp P o us v) fun v => .val (sV v))
    | none => .fail
def stepV (P : Program) (Γ : Cfg) (sz : Nat) (o : Oper) (vals : List (Option SV)) (h : Nat → Option Blk) (fresh : Bool) : SR :=
  match o.op, vals with
  | .move _, [some x] => mvV x
  | .assign _, [some x] => mvV x
  | .pick _ _ _, [some (.c (.at (.d (.v (.bool b))))), x, y] => match x, y with
    | some x, some y => guardD sz o.dst (.spl b (.val x) (.val y))
    | _, _ => .fail
  | .alloc t, _ =>
    match look Γ.ty t, o.dst, fresh with
    | some td, some d, true => guardD sz o.dst (.ret (.new d (.own (td.zero.map .d)) (.c (.at (.ptr d 0)))))
    | _, _, _ => .fail
  | .box _ _, [some (.c x)] =>
    match o.dst, fresh with
    | some d, true => guardD sz o.dst (.ret (.new d (.own (cellsC x)) (.c (.at (.ptr d 0)))))
    | _, _ => .fail
  | .load t _, [some (.c (.at (.ptr n off)))] =>
    match look Γ.ty t, h n with
    | some td, some (.own cs) => match partA td.agg cs off td.size with
      | some x => retD sz o.dst (.c x)
      | none => .fail
    | _, _ => .fail
  | .load t _, [some (.c (.at (.ep k l i off)))] =>
    match look Γ.ty t with
    | some td => guardD sz o.dst (.exL (fun e => l[i]? = some e ∧ off + td.size ≤ e.length)
        fun e => .val (.c (match td.agg with | true => .agg ((((e.map At.d).drop off).take td.size)) | false => .at ((e.map At.d)[off]?.getD default))))
    | none => .fail
  | .store t _ _, [some (.c (.at (.ptr n off))), some (.c x)] =>
    match look Γ.ty t, h n, o.dst with
    | some td, some (.own cs), none => match Nat.beq (cellsC x).length td.size, Nat.ble (off + td.size) cs.length with
      | true, true => .ret (.put n (.own (setL cs off (cellsC x))))
      | _, _ => .fail
    | _, _, _ => .fail
  | .fieldAddr t _ i, [some (.c (.at (.ptr n off)))] =>
    match look Γ.ty t with
    | some (.st _ _ fs) => match fs[i]? with
      | some (fo, fz, _) => match Nat.beq fz 0 with | false => retD sz o.dst (.c (.at (.ptr n (off + fo)))) | true => .fail
      | none => .fail
    | _ => .fail
  | .fieldAddr t _ i, [some (.c (.at (.ep k l j off)))] =>
    match look Γ.ty t with
    | some (.st _ _ fs) => match fs[i]? with
      | some (fo, fz, _) => match Nat.beq fz 0 with | false => retD sz o.dst (.c (.at (.ep k l j (off + fo)))) | true => .fail
      | none => .fail
    | _ => .fail
  | .field t _ i, [some (.c (.agg l))] =>
    match look Γ.ty t with
    | some (.st _ _ fs) => match fs[i]? with
      | some (fo, fz, fa) => match partA fa l fo fz with
        | some x => retD sz o.dst (.c x)
        | none => .fail
      | none => .fail
    | _ => .fail
  | .index t _ _, [some (.c (.agg l)), some (.c (.at (.d (.v (.int _ i)))))] =>
    match look Γ.ty t with
    | some (.ar _ _ len ek ea) => match partA ea l (i.toNat * ek) ek with
      | some x => guardD sz o.dst (.ob (0 ≤ i ∧ i < len) (.val (.c x)))
      | none => .fail
    | _ => .fail
  | .makeFunc (.func f) first _, vs =>
    match Nat.beq first.size 0, ptrsOf vs with
    | true, some caps => retD sz o.dst (.c (.at (.fn f caps)))
    | _, _ => .fail
  | .nilCheck _, [some (.c (.at (.ptr n off)))] => retD sz o.dst (.c (.at (.ptr n off)))
  | .nilCheck _, [some (.c (.at (.ep k l i off)))] => retD sz o.dst (.c (.at (.ep k l i off)))
  | .binOp .eql t _ _ _, [some (.c (.at (.d y))), some (.c (.at (.d (.v (.slice none 0 0)))))] =>
    match look Γ.ty t, isNil y with
    | some (.sl _ _ _), some b => retD sz o.dst (sV (.bool b))
    | _, _ => .fail
  | .binOp op t x y _, [some vx, some vy] =>
    match svV? vx, svV? vy with
    | some (.int k a), some (.int k' b) =>
      match sameK k k' with
      | true => match op with
        | .quo => guardD sz o.dst (.ob (b ≠ 0) (.val (sV (.int k (k.wrap (a.tdiv b))))))
        | .rem => guardD sz o.dst (.ob (b ≠ 0) (.val (sV (.int k (a.tmod b)))))
        | .shl => guardD sz o.dst (.ob (0 ≤ b) (.val (sV (.int k (k.wrap (a * 2 ^ (min b.toNat k.bits)))))))
        | .shr => guardD sz o.dst (.ob (0 ≤ b) (.val (sV (.int k (a.fdiv (2 ^ (min b.toNat k.bits)))))))
        | op => match binI op k a b with
          | some v => retD sz o.dst (sV v)
          | none => .fail
      | false => match op with
        | .shl => guardD sz o.dst (.ob (0 ≤ b) (.val (sV (.int k (k.wrap (a * 2 ^ (min b.toNat k.bits)))))))
        | .shr => guardD sz o.dst (.ob (0 ≤ b) (.val (sV (.int k (a.fdiv (2 ^ (min b.toNat k.bits)))))))
        | _ => .fail
    | some (.bool a), some (.bool b) =>
      match look Γ.ty t, op with
      | some .bool, .eql => retD sz o.dst (sV (.bool (a == b)))
      | some .bool, .neq => retD sz o.dst (sV (.bool (!(a == b))))
      | _, _ => .fail
    | some a, some b => guardD sz o.dst (.exV (fun v => v.oneCell' = true ∧ wfV v ∧ ∀ w, (do eqGuard op t x y a b; binOp op t a b : Sem Value).run P w = .ok v w) fun v => .val (sV v))
    | _, _ => .fail
  | .unOp op _ _, [some (.c (.at (.d (.v v))))] =>
    match unD op v with
    | some r => retD sz o.dst (sV r)
    | none => .fail
  | .convert s t _, [some (.c (.at (.d (.v v))))] =>
    match look Γ.ty s, look Γ.ty t, v with
    | some (.int _), some (.int k), .int _ n => retD sz o.dst (sV (.int k (k.wrap n)))
    | _, _, _ => guardD sz o.dst (.exV (fun r => r.oneCell' = true ∧ wfV r ∧ ∀ w, (convert s t v).run P w = .ok r w) fun r => .val (sV r))
  | .convert s t _, [some (.c (.at (.d (.list k l))))] => guardD sz o.dst (.exV (fun r => r.oneCell' = true ∧ wfV r ∧ ∀ w M v, Rep w M (.list k l) v → (convert s t v).run P w = .ok r w) fun r => .val (sV r))
  | .extract _ i, [some (.tup l)] =>
    match l.drop i with
    | x :: _ => retD sz o.dst (.c x)
    | [] => .fail
  | .buildSlice t len ps, vs =>
    match look Γ.ty t with
    | some (.sl ek _ _) => match len with
     | 0 => match o.dst, keepB Γ.hu o.dst, Nat.beq ps.size 0 with
       | some d, true, true => guardD sz o.dst (.ret (.val (.c (.at (.zsl ek)))))
       | some d, false, true => match fresh with
         | true => guardD sz o.dst (.ret (.new d (.row ek [] 0) (.c (.at (.osl d 0)))))
         | false => .fail
       | _, _, _ => .fail
     | _ => match buildL ek 0 (ps.toList.map (·.1)) vs with
      | some l => match Nat.beq l.length len, Nat.ble 1 len, Nat.ble 1 ek, Nat.ble (len * ek) 16777216 with
        | true, true, true, true => match keepB Γ.K o.dst, o.dst, fresh with
          | true, some d, true => guardD sz o.dst (.ret (.new d (.row ek l 0) (.c (.at (.osl d 0)))))
          | _, _, _ => retD sz o.dst (sD (.list ek l))
        | _, _, _, _ => .fail
      | none => .fail
    | _ => .fail
  | .build t ps, vs =>
    match look Γ.ty t with
    | some (.ar n z len ek ea) => match buildA ((List.range len).map fun i => (i * ek, ek, ea)) (z.map .d) (ps.toList.map (·.1)) vs with
      | some l => retD sz o.dst (.c (.agg l))
      | none => .fail
    | some (.st n z fs) => match buildA fs (z.map .d) (ps.toList.map (·.1)) vs with
      | some l => retD sz o.dst (.c (.agg l))
      | none => .fail
    | _ => .fail
  | .call c, vs => stepC P Γ sz o c vs h fresh
  | .indexAddr t _ _, [some (.c (.at (.d (.list k l)))), some (.c (.at (.d (.v (.int _ i)))))] =>
    match look Γ.ty t with
    | some (.sl ek _ _) => match Nat.beq ek k with
      | true => guardD sz o.dst (.ob (0 ≤ i ∧ i < l.length) (.val (.c (.at (.ep k l i.toNat 0)))))
      | false => .fail
    | _ => .fail
  | .indexAddr t _ _, [some (.c (.at (.ptr n off))), some (.c (.at (.d (.v (.int _ i)))))] =>
    match look Γ.ty t with
    | some (.ar _ _ len ek _) => guardD sz o.dst (.ob (0 ≤ i ∧ i < len) (.val (.c (.at (.ptr n (off + i.toNat * ek))))))
    | _ => .fail
  | .makeSlice t _ _, [some (.c (.at (.d (.v (.int _ l))))), some (.c (.at (.d (.v (.int _ c)))))] =>
    match look Γ.ty t, keepB Γ.K o.dst with
    | some (.sl k _ z), true => match o.dst, fresh, nrmL z with
      | some d, true, some z => guardD sz o.dst (.ob (0 ≤ l ∧ l ≤ c ∧ c ≤ 1000000) (.new d (.row k (List.replicate l.toNat z) 0) (.c (.at (.osl d 0)))))
      | _, _, _ => .fail
    | some (.sl k _ z), false => match nrmL z with
      | some z => guardD sz o.dst (.ob (0 ≤ l ∧ l ≤ c ∧ c ≤ 1000000) (.val (sD (.list k (List.replicate l.toNat z)))))
      | none => .fail
    | _, _ => .fail
  | .indexAddr t _ _, [some (.c (.at (.osl n v))), some (.c (.at (.d (.v (.int _ i)))))] =>
    match look Γ.ty t, h n with
    | some (.sl ek _ _), some (.row k l v') => match Nat.beq ek k, Nat.beq v v' with
      | true, true => guardD sz o.dst (.ob (0 ≤ i ∧ i < l.length) (.val (.c (.at (.rp n v k i.toNat 0)))))
      | _, _ => .fail
    | _, _ => .fail
  | .nilCheck _, [some (.c (.at (.rp n v k i off)))] =>
    match h n with
    | some (.row _ _ v') => match Nat.beq v v' with
      | true => retD sz o.dst (.c (.at (.rp n v k i off)))
      | false => .fail
    | _ => .fail
  | .fieldAddr t _ i, [some (.c (.at (.rp n v k j off)))] =>
    match look Γ.ty t with
    | some (.st _ _ fs) => match fs[i]? with
      | some (fo, fz, _) => match Nat.beq fz 0, h n with
        | false, some (.row _ _ v') => match Nat.beq v v' with
          | true => retD sz o.dst (.c (.at (.rp n v k j (off + fo))))
          | false => .fail
        | _, _ => .fail
      | none => .fail
    | _ => .fail
  | .indexAddr t _ _, [some (.c (.at (.ep k l j off))), some (.c (.at (.d (.v (.int _ i)))))] =>
    match look Γ.ty t with
    | some (.ar _ _ len ek _) => guardD sz o.dst (.ob (0 ≤ i ∧ i < len) (.val (.c (.at (.ep k l j (off + i.toNat * ek))))))
    | _ => .fail
  | .load t _, [some (.c (.at (.rp n v k i off)))] =>
    match look Γ.ty t, h n with
    | some td, some (.row k' l v') => match Nat.beq k' k, Nat.beq v v' with
      | true, true => guardD sz o.dst (.exL (fun e => l[i]? = some e ∧ off + td.size ≤ e.length) fun e => .val (.c (match td.agg with | true => .agg ((((e.map At.d).drop off).take td.size)) | false => .at ((e.map At.d)[off]?.getD default))))
      | _, _ => .fail
    | _, _ => .fail
  | .store t _ _, [some (.c (.at (.rp n v k i off))), some (.c x)] =>
    match look Γ.ty t, h n, o.dst, atsD? (cellsC x) with
    | some td, some (.row k' l v'), none, some ds => match Nat.beq k' k, Nat.beq ds.length td.size, Nat.beq v v' with
      | true, true, true => .exL (fun e => l[i]? = some e ∧ off + td.size ≤ e.length) fun e => .put n (.row k (l.set i (setL e off ds)) v')
      | _, _, _ => .fail
    | _, _, _, _ => .fail
  | .slice t _ lo hi mx, some (.c (.at (.d (.list k l)))) :: bs =>
    match look Γ.ty t with
    | some (.sl ek _ _) => match Nat.beq ek k, sliB lo hi mx bs l.length with
      | true, some (a, b, m) => match mx with
        | some (.const (.int _ (.ofNat 0))) => match keepB Γ.K o.dst with
          | true => match o.dst, fresh with
            | some d, true => guardD sz o.dst (.ob (a = 0 ∧ b = 0) (.new d (.row k [] 0) (.c (.at (.osl d 0)))))
            | _, _ => .fail
          | false => .fail
        | _ => guardD sz o.dst (.ob (0 ≤ a ∧ a ≤ b ∧ b ≤ m ∧ m ≤ l.length) (.val (sD (.list k ((l.take b.toNat).drop a.toNat)))))
      | _, _ => .fail
    | _ => .fail
  | _, vs => match svsV? vs with
    | some us => guardD sz o.dst (.exV (fun v => PureOp P o us v) fun v => .val (sV v))
    | none => .fail
where
 mvV (x:SV):SR :=
  match nilS x with
  | true=>match look Γ.ty o.type with
   | some (.sl k _ _)=>match keepB Γ.K o.dst with
    | true=>match o.dst,fresh with
     | some d,true=>guardD sz o.dst (.ret (.new d (.row k [] 0) (.c (.at (.osl d 0)))))
     | _,_=>.fail
    | false=>retD sz o.dst (sD (.nil k))
   | _=>.fail
  | false=>retD sz o.dst x
 ptrsOf:List (Option SV)→Option (List Nat)
  | []=>some []
  | some (.c (.at (.ptr n 0)))::l=>match ptrsOf l with|some r=>some (n::r)|none=>none
  | _::_=>none
 sliB (lo hi mx:Option Operand) (bs:List (Option SV)) (len:Nat):Option (Int × Int × Int) :=
  match lo,hi,mx,bs with
  | none,none,none,[]=>some (0,len,len)
  | some _,none,none,[a]=>match bndI a with|some a=>some (a,len,len)|none=>none
  | none,some _,none,[b]=>match bndI b with|some b=>some (0,b,len)|none=>none
  | some _,some _,none,[a,b]=>match bndI a,bndI b with|some a,some b=>some (a,b,len)|_,_=>none
  | none,some _,some _,[b,m]=>match bndI b,bndI m with|some b,some m=>some (0,b,m)|_,_=>none
  | some _,some _,some _,[a,b,m]=>match bndI a,bndI b,bndI m with|some a,some b,some m=>some (a,b,m)|_,_,_=>none
  | _,_,_,_=>none
 buildL (ek:Nat):Nat→List Nat→List (Option SV)→Option (List (List D))
  | _,[],[]=>some []
  | j,i::is,some (.c x)::vs =>
   match Nat.beq i j,atsD? (cellsC x),Nat.beq (cellsC x).length ek with
   | true,some d,true=>match buildL ek (j+1) is vs with
    | some r=>some (d::r)
    | none=>none
   | _,_,_=>none
  | _,_,_=>none
 buildA (fs:List (Nat × Nat × Bool)):List At→List Nat→List (Option SV)→Option (List At)
  | z,[],_=>some z
  | z,i::is,some (.c x)::vs =>
   match fs[i]? with
   | some (fo,fz,_)=>match Nat.beq (cellsC x).length fz,Nat.ble (fo+fz) z.length with
    | true,true=>buildA fs (setL z fo (cellsC x)) is vs
    | _,_=>none
   | none=>none
  | _,_,_=>none
def ev (e:Nat→Option SV):Operand→Option SV
 | .tmp t=>e t
 | .const v=>match wfB v with|true=>(match v with|.agg _=>none|.tuple _=>none|.func _ _ _=>none|v=>some (sV v))|false=>none
 | .global _=>none
 | .func f=>some (.c (.at (.fn f [])))
def namesO:List (Option SV)→List Nat
 | []=>[]
 | some x::l=>x.names++namesO l
 | none::l=>namesO l
def namR (o:Oper) (l:List (Option SV)):List Nat:=match o.op with|.move _=>[]|.assign _=>[]|_=>namesO l
def onlyN (h:Nat→Option Blk) (l:List Nat) (n:Nat):Option Blk:=match memB n l with|true=>h n|false=>none
def freshB (h:Nat→Option Blk):Option Nat→Bool
 | some d=>(h d).isNone
 | none=>false
def valsOf (e:Nat→Option SV) (o:Oper):List (Option SV):=o.op.operands.toList.map (ev e)
def stepF (P:Program) (Γ:Cfg) (sz:Nat) (o:Oper) (e:Nat→Option SV) (h:Nat→Option Blk):SR :=
 stepV P Γ sz o (valsOf e o) (onlyN h (namR o (valsOf e o))) (freshB h o.dst)
def apE (dst:Option Nat) (x:Eff) (E:Env):Env :=
 match x,dst with
 | .val v,some d=>(d,v)::E
 | .new _ _ v,some d=>(d,v)::E
 | .many _ v,some d=>(d,v)::E
 | _,_=>E
def apH (x:Eff) (H:Hp):Hp :=
 match x with
 | .new n b _=>(n,b)::H
 | .put n b=>(n,b)::H
 | .many l _=>l++H
 | .val _=>H
end Sx
end Go.Proofs.YtddbmpbihpkabaaGreat
