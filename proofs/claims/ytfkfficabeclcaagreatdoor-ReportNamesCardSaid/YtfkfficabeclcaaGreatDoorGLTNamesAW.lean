import Derived.Test.YtfkfficabeclcaaGreatDoorGLTNamesAV
import Derived.Test.YtfkfficabeclcaaGreatDoorGLTNamesAK
import Derived.Test.YtfkfficabeclcaaGreatDoorGLTNamesAQ
import Derived.Test.YtfkfficabeclcaaGreatDoorGLTNamesAU
import Derived.Test.YtfkfficabeclcaaGreatDoorGLTNamesAO
import Derived.Test.YtfkfficabeclcaaGreatDoorGLTNamesAR
set_option linter.all false
namespace Go.Proofs.YtfkfficabeclcaaGreatDoor
open Go Go.RowKit Go.Sort Sx
open Go.Lib hiding intOf
def rpC (r:Rp) (ms:Value):Array Value:=#[.int .i64 r.e,.int .i64 r.i,.int .i64 r.j,.int .i64 r.n,.int .i64 r.d,ms]
theorem cells6 {W:World} {b:Nat} {u v x y z m:Value} {T:TypeId} (h:W.heap[b]? = some (.cells #[u,v,x,y,z,m] T (0,0))) :
  (W.cell? ⟨b,0,none⟩=some u∧W.cell? ⟨b,1,none⟩=some v∧W.cell? ⟨b,2,none⟩=some x∧W.cell? ⟨b,3,none⟩=some y∧W.cell? ⟨b,4,none⟩=some z∧W.cell? ⟨b,5,none⟩=some m)∧∀ o,W.frozen? ⟨b,o,none⟩=false:=by
 refine ⟨⟨?_,?_,?_,?_,?_,?_⟩,fun o => ?_⟩<;>simp [World.cell?,World.frozen?,h]
theorem set6 {W:World} {b:Nat} {cs:Array Value} {T:TypeId} (i:Nat) (v:Value) (h:W.heap[b]? = some (.cells cs T (0,0))):(W.setCell ⟨b,i,none⟩ v).heap[b]? = some (.cells (cs.setIfInBounds i v) T (0,0)):=by
 obtain ⟨hlt,hk⟩:=Array.getElem?_eq_some_iff.1 h
 show (W.heap.modify b _)[b]? = _
 rw [Array.getElem?_eq_getElem (by rw [Array.size_modify];exact hlt),Array.getElem_modify_self,hk]
 rfl
theorem results_read {R K:Nat} {W:World} {u v x y z m e:Value} (tmps:Array Value) (h2:tmps[2]? = some (.pointer (some ⟨R,0,none⟩))) (h3:tmps[3]? = some (.pointer (some ⟨K,0,none⟩))) (h6:W.heap[R]? = some (.cells #[u,v,x,y,z,m] 28 (0,0))) (h7:Boxed W K 4 e):(results Tryz.f43 tmps).run Tryz.prog W=.ok (.tuple #[.agg #[u,v,x,y,z,m],e]) W:=by
 obtain ⟨⟨a0,a1,a2,a3,a4,a5⟩,_⟩:=cells6 h6
 have e0:=h7.cell
 have hr:Tryz.f43.results=#[.cell 2 28,.cell 3 4]:=rfl
 simp only [results,hr]
 simp [h2,h3]
 go_simp
def ldX:List Str→Rp × Bool
 | [a,b]=>match atoV a with
  | none=>(rp0,false)
  | some i=>match frV b with
   | none=>(⟨0,i,0,0,0,[]⟩,false)
   | some q=>(⟨0,i,0,q.1,q.2,[]⟩,true)
 | _=>(rp0,false)
theorem ldX_is (t:List Str):rdWP wLeader t=if (ldX t).2=true then some (ldX t).1 else none:=by
 unfold rdWP ldX
 rw [if_neg (by decide),if_neg (by decide),if_pos rfl]
 match t with
 | [a,b] =>
  rcases h1:atoV a with _|i
  ·simp [h1]
  ·rcases h2:frV b with _|q<;>simp [h1,h2]
 | []=>rfl
 | [_]=>rfl
 | _::_::_::_=>rfl
theorem ldX_sc {R:Nat}:∀ {t:List Str},t.length=2→∀ W:World,W.heap[R]? = some (.cells (rpC rp0 (.slice none 0 0)) 28 (0,0))→(scanW t [.i R 1,.r R 3] W).2=(ldX t).2∧(scanW t [.i R 1,.r R 3] W).1.heap[R]? = some (.cells (rpC (ldX t).1 (.slice none 0 0)) 28 (0,0))
 | [a,b],_,W,h=>by
  unfold scanW ldX
  simp only [Tg.put]
  cases atoV a with
  | none=>exact ⟨rfl,h⟩
  | some i =>
   simp only [Option.map_some]
   unfold scanW
   simp only [Tg.put]
   have h1:=set6 1 (.int .i64 i) h
   cases frV b with
   | none=>exact ⟨rfl,h1⟩
   | some q =>
    simp only [Option.map_some]
    unfold scanW
    exact ⟨rfl,set6 4 (.int .i64 q.2) (set6 3 (.int .i64 q.1) h1)⟩
 | [],h,_,_=>by cases h
 | [_],h,_,_=>by cases h
 | _::_::_::_,h,_,_=>by simp at h
theorem ldX_no {t:List Str} (h:t.length≠2):ldX t=(rp0,false):=by
 match t,h with
 | [a,b],h=>exact absurd rfl h
 | [],_=>rfl
 | [_],_=>rfl
 | _::_::_::_,_=>rfl
def rdW (w:World):World:=(w.alloc (.cells (rpC rp0 (.slice none 0 0)) 28)).alloc (.cells #[.bool false] 4)
theorem rdW_ok (w:World):(rdW w).heap.size=w.heap.size+2∧(rdW w).heap[w.heap.size]? = some (.cells (rpC rp0 (.slice none 0 0)) 28 (0,0))∧(rdW w).heap[w.heap.size+1]? = some (.cells #[.bool false] 4 (0,0))∧Below w.heap.size w (rdW w):=by
 unfold rdW
 refine ⟨by simp,?_,?_,((Below.refl _ _).alloc (Nat.le_refl _) _).alloc (by simp) _⟩
 ·rw [Below.heap_alloc _ _ _ (by simp)];exact World.alloc_heap_new w _
 ·have:=World.alloc_heap_new (w.alloc (.cells (rpC rp0 (.slice none 0 0)) 28)) (.cells #[.bool false] 4)
  rwa [World.size_alloc] at this
theorem cel6 {W:World} {b o:Nat} {cs:Array Value} {T:TypeId} (h:W.heap[b]? = some (.cells cs T (0,0))) (ho:o<cs.size):Cel W b o:=by
 refine ⟨⟨cs[o],?_⟩,?_⟩<;>simp [World.cell?,World.frozen?,h,ho]
def prX:List Str→Rp × Bool
 | [a,b,c]=>match atoV a with
  | none=>(rp0,false)
  | some i=>match atoV b with
   | none=>(⟨0,i,0,0,0,[]⟩,false)
   | some j=>match frV c with
    | none=>(⟨0,i,j,0,0,[]⟩,false)
    | some q=>(⟨0,i,j,q.1,q.2,[]⟩,true)
 | _=>(rp0,false)
theorem prX_is (t:List Str):rdWP wPair t=if (prX t).2=true then some (prX t).1 else none:=by
 unfold rdWP prX
 rw [if_neg (by decide),if_neg (by decide),if_neg (by decide),if_pos rfl]
 match t with
 | [a,b,c] =>
  rcases h1:atoV a with _|i
  ·simp [h1]
  ·rcases h2:atoV b with _|j
   ·simp [h1,h2]
   ·rcases h3:frV c with _|q<;>simp [h1,h2,h3]
 | []=>rfl
 | [_]=>rfl
 | [_,_]=>rfl
 | _::_::_::_::_=>rfl
theorem prX_sc {R:Nat}:∀ {t:List Str},t.length=3→∀ W:World,W.heap[R]? = some (.cells (rpC rp0 (.slice none 0 0)) 28 (0,0))→(scanW t [.i R 1,.i R 2,.r R 3] W).2=(prX t).2∧(scanW t [.i R 1,.i R 2,.r R 3] W).1.heap[R]? = some (.cells (rpC (prX t).1 (.slice none 0 0)) 28 (0,0))
 | [a,b,c],_,W,h=>by
  unfold scanW prX
  simp only [Tg.put]
  cases atoV a with
  | none=>exact ⟨rfl,h⟩
  | some i =>
   simp only [Option.map_some]
   unfold scanW
   simp only [Tg.put]
   have h1:=set6 1 (.int .i64 i) h
   cases atoV b with
   | none=>exact ⟨rfl,h1⟩
   | some j =>
    simp only [Option.map_some]
    unfold scanW
    simp only [Tg.put]
    have h2:=set6 2 (.int .i64 j) h1
    cases frV c with
    | none=>exact ⟨rfl,h2⟩
    | some q =>
     simp only [Option.map_some]
     unfold scanW
     exact ⟨rfl,set6 4 (.int .i64 q.2) (set6 3 (.int .i64 q.1) h2)⟩
 | [],h,_,_=>by cases h
 | [_],h,_,_=>by cases h
 | [_,_],h,_,_=>by cases h
 | _::_::_::_::_,h,_,_=>by simp at h
theorem prX_no {t:List Str} (h:t.length≠3):prX t=(rp0,false):=by
 match t,h with
 | [a,b,c],h=>exact absurd rfl h
 | [],_=>rfl
 | [_],_=>rfl
 | [_,_],_=>rfl
 | _::_::_::_::_,_=>rfl
def erX:List Str→Int × Bool
 | [a]=>match atoV a with
  | none=>(0,false)
  | some i=>(i,true)
 | _=>(0,false)
theorem erX_is (t:List Str):rdWP wErr t=if (erX t).2=true then some (rpE (erX t).1) else none:=by
 unfold rdWP erX
 rw [if_neg (by decide),if_pos rfl]
 match t with
 | [a]=>rcases h1:atoV a with _|i<;>simp [h1]
 | []=>rfl
 | _::_::_=>rfl
theorem erX_sc {R:Nat}:∀ {t:List Str},t.length=1→∀ W:World,W.heap[R]? = some (.cells #[.int .i64 0] 3 (0,0))→(scanW t [.i R 0] W).2=(erX t).2∧(scanW t [.i R 0] W).1.heap[R]? = some (.cells #[.int .i64 (erX t).1] 3 (0,0))
 | [a],_,W,h=>by
  unfold scanW erX
  simp only [Tg.put]
  cases atoV a with
  | none=>exact ⟨rfl,h⟩
  | some i =>
   simp only [Option.map_some]
   unfold scanW
   exact ⟨rfl,set6 0 (.int .i64 i) h⟩
 | [],h,_,_=>by cases h
 | _::_::_,h,_,_=>by simp at h
theorem erX_no {t:List Str} (h:t.length≠1):erX t=(0,false):=by
 match t,h with
 | [a],h=>exact absurd rfl h
 | [],_=>rfl
 | _::_::_,_=>rfl
theorem atoV_in {s:Str} {v:Int} (h:atoV s=some v):in64 v:=atoiAll_bounds (atoV_ok h)
theorem frV_in {s:Str} {q:Int × Int} (h:frV s=some q):in64 q.1∧in64 q.2:=⟨fit_in (frV_fit h).1,fit_in (frV_fit h).2⟩
def rpIn (r:Rp):Prop:=in64 r.e∧in64 r.i∧in64 r.j∧in64 r.n∧in64 r.d
theorem in0:in64 0:=⟨by decide,by decide⟩
theorem ldX_in (t:List Str):rpIn (ldX t).1:=by
 unfold ldX
 split
 ·rcases h1:atoV _ with _|i
  ·exact ⟨in0,in0,in0,in0,in0⟩
  ·rcases h2:frV _ with _|q
   ·exact ⟨in0,atoV_in h1,in0,in0,in0⟩
   ·exact ⟨in0,atoV_in h1,in0,(frV_in h2).1,(frV_in h2).2⟩
 ·exact ⟨in0,in0,in0,in0,in0⟩
theorem prX_in (t:List Str):rpIn (prX t).1:=by
 unfold prX
 split
 ·rcases h1:atoV _ with _|i
  ·exact ⟨in0,in0,in0,in0,in0⟩
  ·rcases h2:atoV _ with _|j
   ·exact ⟨in0,atoV_in h1,in0,in0,in0⟩
   ·rcases h3:frV _ with _|q
    ·exact ⟨in0,atoV_in h1,atoV_in h2,in0,in0⟩
    ·exact ⟨in0,atoV_in h1,atoV_in h2,(frV_in h3).1,(frV_in h3).2⟩
 ·exact ⟨in0,in0,in0,in0,in0⟩
theorem erX_in (t:List Str):in64 (erX t).1:=by
 unfold erX
 split
 ·rcases h1:atoV _ with _|i
  ·exact in0
  ·exact atoV_in h1
 ·exact in0
end Go.Proofs.YtfkfficabeclcaaGreatDoor

namespace Go.Proofs.YtfkfficabeclcaaGreatDoor
open Go Go.RowKit Go.Sort Sx
open Go.Lib hiding intOf
def setC:List (List Sx.D)→Nat→(List Sx.D→List Sx.D)→List (List Sx.D)
 | [],_,_=>[]
 | c::l,0,f=>f c::l
 | c::l,i+1,f=>c::setC l i f
def putD (s:Str) (t:TypeId × Nat × Nat) (cs:List (List Sx.D)):Option (List (List Sx.D)) :=
 if t.1=93 then (frV s).map fun q=>setC cs t.2.1 fun c=>(c.set t.2.2 (i64 q.1)).set (t.2.2+1) (i64 q.2)
 else (atoV s).map fun n=>setC cs t.2.1 fun c=>c.set t.2.2 (i64 n)
def scanD:List Str→List (TypeId × Nat × Nat)→List (List Sx.D)→List (List Sx.D) × Bool
 | s::ws,t::ts,cs=>match putD s t cs with
  | some cs'=>scanD ws ts cs'
  | none=>(cs,false)
 | _,_,cs=>(cs,true)
def tgOf (bs:List Nat) (t:TypeId × Nat × Nat):Tg:=if t.1=93 then .r (bs.getD t.2.1 0) t.2.2 else if t.1=145 then .l (bs.getD t.2.1 0) t.2.2 else .i (bs.getD t.2.1 0) t.2.2
def plOk (cs:List (List Sx.D)) (t:TypeId × Nat × Nat):Prop:=(t.1=93∨t.1=145∨t.1=136)∧∃ c,cs[t.2.1]? = some c∧t.2.2<c.length∧(t.1=93→t.2.2+1<c.length)
theorem setC_len:∀ (cs:List (List Sx.D)) (i:Nat) (f:List Sx.D→List Sx.D),(setC cs i f).length=cs.length
 | [],_,_=>rfl
 | c::l,0,f=>rfl
 | c::l,i+1,f=>by rw [setC,List.length_cons,setC_len l i f,List.length_cons]
theorem setC_get:∀ (cs:List (List Sx.D)) (i j:Nat) (f:List Sx.D→List Sx.D),(setC cs i f)[j]? = if j=i then (cs[j]?).map f else cs[j]?
 | [],i,j,f=>by simp [setC]
 | c::l,0,0,f=>rfl
 | c::l,0,j+1,f=>by simp [setC]
 | c::l,i+1,0,f=>by simp [setC]
 | c::l,i+1,j+1,f=>by simp [setC,setC_get l i j f]
theorem plOk_set {cs:List (List Sx.D)} {t:TypeId × Nat × Nat} {i:Nat} {f:List Sx.D→List Sx.D} (hf:∀ c,(f c).length=c.length) (h:plOk cs t):plOk (setC cs i f) t:=by
 obtain ⟨h1,c,h2,h3,h4⟩:=h
 refine ⟨h1,if t.2.1=i then f c else c,?_,?_,?_⟩
 ·rw [setC_get,h2]
  split<;>rfl
 ·split
  ·rw [hf];exact h3
  ·exact h3
 ·split
  ·rw [hf];exact h4
  ·exact h4
def HoldC (W:World) (M:Nat→Prop) (bs:List Nat) (cs:List (List Sx.D)):Prop:=∀ (i b:Nat) (ds:List Sx.D),bs[i]? = some b→cs[i]? = some ds→∃ us,CellsAt W b us∧DsR W M ds us
theorem dsR_set {W:World} {M:Nat→Prop}:∀ {ds:List Sx.D} {us:List Value} {o:Nat} {d:Sx.D} {v:Value},DsR W M ds us→Rep W M d v→DsR W M (ds.set o d) (us.set o v)
 | [],[],_,_,_,h,_=>h
 | x::ds,u::us,0,d,v,h,k=>⟨k,h.2⟩
 | x::ds,u::us,o+1,d,v,h,k=>⟨h.1,dsR_set h.2 k⟩
 | [],_::_,_,_,_,h,_=>h.elim
 | _::_,[],_,_,_,h,_=>h.elim
theorem cellsAt_set {W:World} {b o:Nat} {us:List Value} {v:Value} (h:CellsAt W b us):CellsAt (W.setCell ⟨b,o,none⟩ v) b (us.set o v):=by
 obtain ⟨T,h⟩:=h
 refine ⟨T,?_⟩
 rw [set6 o v h]
 simp
theorem cellsAt_other {W:World} {b b' o:Nat} {us:List Value} {v:Value} (hne:b≠b') (h:CellsAt W b us):CellsAt (W.setCell ⟨b',o,none⟩ v) b us:=by
 obtain ⟨T,h⟩:=h
 exact ⟨T,setCell_o hne h⟩
theorem holds_set {W:World} {M:Nat→Prop} {a:Addr} {v:Value} (h:M a.block):Holds M W (W.setCell a v):=⟨by rw [size_set];exact Nat.le_refl _,fun b _ hM _=>setCell_other fun e=>hM (by rw [e];exact h)⟩
theorem nodup_ne {bs:List Nat} (hn:bs.Nodup) {i j b b':Nat} (h1:bs[i]? = some b) (h2:bs[j]? = some b') (h:i≠j):b≠b':=by
 obtain ⟨hi,e1⟩:=List.getElem?_eq_some_iff.1 h1
 obtain ⟨hj,e2⟩:=List.getElem?_eq_some_iff.1 h2
 rintro rfl
 exact h ((List.getElem_inj hn).1 (e1.trans e2.symm))
theorem holdC_put {W:World} {M:Nat→Prop} {bs:List Nat} {cs:List (List Sx.D)} {i b o:Nat} {d:Sx.D} {v:Value} (hn:bs.Nodup) (hM:∀ b∈bs,M b) (h:HoldC W M bs cs) (hb:bs[i]? = some b) (hd:∀ W',Rep W' M d v) :
  HoldC (W.setCell ⟨b,o,none⟩ v) M bs (setC cs i fun c=>c.set o d):=by
 have hMb:M b:=hM b (List.mem_of_getElem? hb)
 intro j b' ds h1 h2
 rw [setC_get] at h2
 split at h2
 ·rename_i e
  subst e
  rw [hb] at h1
  injection h1 with h1
  subst h1
  obtain ⟨c,hc,rfl⟩:=Option.map_eq_some_iff.1 h2
  obtain ⟨us,k1,k2⟩:=h j b c hb hc
  exact ⟨us.set o v,cellsAt_set k1,dsR_set (k2.mono (holds_set hMb) fun _ _ h=>h) (hd _)⟩
 ·rename_i e
  obtain ⟨us,k1,k2⟩:=h j b' ds h1 h2
  exact ⟨us,cellsAt_other (nodup_ne hn h1 hb e) k1,k2.mono (holds_set hMb) fun _ _ h=>h⟩
theorem tg_v {bs:List Nat} {cs:List (List Sx.D)} {t:TypeId × Nat × Nat} (h:plOk cs t):(tgOf bs t).v=ptV bs t:=by
 obtain ⟨t,i,o⟩:=t
 obtain ⟨h,_⟩:=h
 unfold tgOf ptV
 simp only at h ⊢
 rcases h with rfl|rfl|rfl
 ·rw [if_pos rfl];rfl
 ·rw [if_neg (by decide),if_pos rfl];rfl
 ·rw [if_neg (by decide),if_neg (by decide)];rfl
theorem tg_b {bs:List Nat} {t:TypeId × Nat × Nat}:(tgOf bs t).b=bs.getD t.2.1 0:=by
 unfold tgOf
 repeat' split
 all_goals rfl
theorem tg_in {bs:List Nat} {cs:List (List Sx.D)} {t:TypeId × Nat × Nat} (hl:bs.length=cs.length) (h:plOk cs t):bs[t.2.1]? = some (bs.getD t.2.1 0):=by
 obtain ⟨_,c,h2,_⟩:=h
 have:=(List.getElem?_eq_some_iff.1 h2).1
 rw [List.getElem?_eq_getElem (by omega),List.getD_eq_getElem?_getD,List.getElem?_eq_getElem (by omega)]
 rfl
theorem scanD_ok {M:Nat→Prop} {bs:List Nat} (hn:bs.Nodup) (hM:∀ b∈bs,M b):∀ (ws:List Str) (ts:List (TypeId × Nat × Nat)) (cs:List (List Sx.D)) (W:World),bs.length=cs.length→(∀ t∈ts,plOk cs t)→HoldC W M bs cs →
  (scanW ws (ts.map (tgOf bs)) W).2=(scanD ws ts cs).2∧HoldC (scanW ws (ts.map (tgOf bs)) W).1 M bs (scanD ws ts cs).1∧(scanD ws ts cs).1.length=cs.length
 | [],ts,cs,W,_,_,h=>by cases ts<;>exact ⟨rfl,h,rfl⟩
 | _::_,[],cs,W,_,_,h=>⟨rfl,h,rfl⟩
 | s::ws,(T,i,o)::ts,cs,W,hl,hp,h=>by
  have hpt:=hp _ (List.mem_cons_self ..)
  have hb:=tg_in hl hpt
  simp only at hb
  rw [List.map_cons]
  unfold scanW scanD
  have e:tgOf bs (T,i,o)=if T=93 then .r (bs.getD i 0) o else if T=145 then .l (bs.getD i 0) o else .i (bs.getD i 0) o:=rfl
  rw [e]
  unfold putD
  by_cases hT:T=93
  ·subst hT
   rw [if_pos rfl,if_pos rfl]
   simp only [Tg.put]
   cases hq:frV s with
   | none=>exact ⟨rfl,h,rfl⟩
   | some q =>
    simp only [Option.map_some]
    have qi:=frV_in hq
    have h1:=holdC_put (o:=o) (d:=i64 q.1) (v:=.int .i64 q.1) hn hM h hb (fun W'=>.v _ rfl qi.1)
    have h2:=holdC_put (o:=o+1) (d:=i64 q.2) (v:=.int .i64 q.2) hn hM h1 hb (fun W'=>.v _ rfl qi.2)
    have e2:setC (setC cs i fun c=>c.set o (i64 q.1)) i (fun c=>c.set (o+1) (i64 q.2))=setC cs i fun c=>(c.set o (i64 q.1)).set (o+1) (i64 q.2):=by
     refine List.ext_getElem? fun j => ?_
     rw [setC_get,setC_get,setC_get]
     by_cases hj:j=i
     ·rw [if_pos hj,if_pos hj,if_pos hj,Option.map_map];rfl
     ·rw [if_neg hj,if_neg hj,if_neg hj]
    rw [e2] at h2
    obtain ⟨r1,r2,r3⟩:=scanD_ok hn hM ws ts _ _ (by rw [setC_len];exact hl) (fun t ht=>plOk_set (fun c=>by rw [List.length_set,List.length_set]) (hp t (List.mem_cons_of_mem _ ht))) h2
    exact ⟨r1,r2,r3.trans (setC_len ..)⟩
  ·rw [if_neg hT,if_neg hT]
   have key:∀ n,atoV s=some n→(scanW ws (ts.map (tgOf bs)) (W.setCell ⟨bs.getD i 0,o,none⟩ (.int .i64 n))).2=(scanD ws ts (setC cs i fun c=>c.set o (i64 n))).2∧HoldC (scanW ws (ts.map (tgOf bs)) (W.setCell ⟨bs.getD i 0,o,none⟩ (.int .i64 n))).1 M bs (scanD ws ts (setC cs i fun c=>c.set o (i64 n))).1∧(scanD ws ts (setC cs i fun c=>c.set o (i64 n))).1.length=cs.length:=fun n hq=>by
    have h1:=holdC_put (o:=o) (d:=i64 n) (v:=.int .i64 n) hn hM h hb (fun W'=>.v _ rfl (atoV_in hq))
    obtain ⟨r1,r2,r3⟩:=scanD_ok hn hM ws ts _ _ (by rw [setC_len];exact hl) (fun t ht=>plOk_set (fun c=>by rw [List.length_set]) (hp t (List.mem_cons_of_mem _ ht))) h1
    exact ⟨r1,r2,r3.trans (setC_len ..)⟩
   by_cases hT2:T=145
   ·rw [if_pos hT2]
    simp only [Tg.put]
    cases hq:atoV s with
    | none=>exact ⟨rfl,h,rfl⟩
    | some n=>exact key n hq
   ·rw [if_neg hT2]
    simp only [Tg.put]
    cases hq:atoV s with
    | none=>exact ⟨rfl,h,rfl⟩
    | some n=>exact key n hq
theorem cel_at {W:World} {b o:Nat} {us:List Value} (h:CellsAt W b us) (ho:o<us.length):Cel W b o:=by
 obtain ⟨T,h⟩:=h
 exact cel6 h (by simpa using ho)
theorem scan_ptr (ws:List Str) (ts:List (TypeId × Nat × Nat)) (cs cs':List (List Sx.D)) (b:Bool) (hl:ws.length≤1000000) (hlt:ts.length≤100) (hs:∀ x∈ws,x.length≤1000000) (hp:∀ t∈ts,plOk cs t) (hr:(if ws.length=ts.length then scanD ws ts cs else (cs,false))=(cs',b)) :
  FnPtr Tryz.prog 45 [.one (strs ws)] ts cs (.c (.one (bol b))) cs':=by
 have hlen':cs'.length=cs.length:=by
  split at hr
  ·have:=(scanD_ok (M:=fun _=>False) (bs:=[]) List.nodup_nil (fun b hb=>by cases hb) ws ts cs)
   have key:∀ (ws:List Str) (ts:List (TypeId × Nat × Nat)) (cs:List (List Sx.D)),(scanD ws ts cs).1.length=cs.length:=by
    intro ws
    induction ws with
    | nil=>intro ts cs;cases ts<;>rfl
    | cons s ws ih =>
     intro ts cs
     cases ts with
     | nil=>rfl
     | cons t ts =>
      unfold scanD putD
      by_cases ht:t.1=93
      ·rw [if_pos ht]
       cases frV s with
       | none=>rfl
       | some q=>exact (ih ts _).trans (setC_len ..)
      ·rw [if_neg ht]
       cases atoV s with
       | none=>rfl
       | some q=>exact (ih ts _).trans (setC_len ..)
   have:=key ws ts cs
   rw [hr] at this
   exact this
  ·injection hr with h1 h2
   rw [← h1]
 refine ⟨hlen',fun w M vs bs nb hM hbl hnd hbM hnb hMn hvs hC hcel => ?_⟩
 match vs,hvs with
 | [v],⟨hv,_⟩ =>
  have hv:Rep w M (strs ws) v:=hv
  refine ⟨45,Tryz.call45 _ _,?_⟩
  have hTs:∀ t∈ts.map (tgOf bs),t.b∈bs:=fun t ht=>by
   obtain ⟨u,hu,rfl⟩:=List.mem_map.1 ht
   rw [tg_b]
   exact List.mem_of_getElem? (tg_in hbl (hp u hu))
  have hcl:ts.map (ptV bs)=(ts.map (tgOf bs)).map Tg.v:=by
   rw [List.map_map]
   exact List.map_congr_left fun t ht=>(tg_v (hp t ht)).symm
  rw [hcl] at hcel
  obtain ⟨T,hT⟩:=hcel
  have hnl:nb<w.heap.size:=(Array.getElem?_eq_some_iff.1 hT).1
  have hout:Outs w (ts.map (tgOf bs)) (some ⟨nb,0,none⟩):=by
   refine ⟨fun i hi=>⟨nb,0,rfl,hnl,fun t ht e=>hnb (by rw [← e];exact hTs t ht),?_⟩,fun t ht=>hM.ge _ (hbM _ (hTs t ht)),fun t ht=>hM.lt _ (hbM _ (hTs t ht)),fun t ht => ?_⟩
   ·simp only [World.cell?,hT]
    simp at hi
    simp [hi]
   ·obtain ⟨u,hu,rfl⟩:=List.mem_map.1 ht
    have hpu:=hp u hu
    have hb:=tg_in hbl hpu
    obtain ⟨_,c,h2,h3,h4⟩:=hpu
    obtain ⟨us,k1,k2⟩:=hC _ _ _ hb h2
    have hul:us.length=c.length:=k2.length
    have e:tgOf bs u=if u.1=93 then .r (bs.getD u.2.1 0) u.2.2 else if u.1=145 then .l (bs.getD u.2.1 0) u.2.2 else .i (bs.getD u.2.1 0) u.2.2:=rfl
    rw [e]
    split
    ·rename_i hr
     exact ⟨cel_at k1 (by omega),cel_at k1 (by have:=h4 hr;omega)⟩
    ·split
     ·exact cel_at k1 (by omega)
     ·exact cel_at k1 (by omega)
  have h:=scan_any ws (ts.map (tgOf bs)) hl (by simpa using hlt) hs w hM.gd v (hv.mono (.refl _ w) fun b _ ⟨t,ht,e⟩=>hbM b (by rw [← e];exact hTs t ht)) _ ts.length hout
  rw [List.length_map] at h
  refine h.mono ?_
  intro e w' h
  obtain ⟨k1,k2,k3⟩:=scanW_keep ws (ts.map (tgOf bs)) w
  by_cases hlen:ws.length=ts.length
  ·rw [if_pos hlen] at h hr
   obtain ⟨rfl,h2⟩:=h
   obtain ⟨r1,r2,r3⟩:=scanD_ok hnd hbM ws ts cs w hbl hp hC
   rw [hr] at r1 r2
   generalize (scanW ws (ts.map (tgOf bs)) w).1=W1 at *
   have hHo:Holds M W1 w':=⟨h2.size,fun b hb hMb _=>h2.block b (by omega)⟩
   refine ⟨.bool b,by rw [r1],.v _ rfl trivial,⟨?_,?_,?_,Nat.le_trans (by omega) h2.size,fun k hk hC'=>(h2.block k hk).trans (k2 k fun t ht e=>hC' (.inl (by rw [← e];exact hTs t ht))),.inl (.inr rfl)⟩,fun i b ds h1 h3 => ?_⟩
   ·exact h2.os.trans (k3 0 fun _ _=>Nat.zero_le _).os
   ·exact h2.tape.trans (k3 0 fun _ _=>Nat.zero_le _).tape
   ·exact h2.output.trans (k3 0 fun _ _=>Nat.zero_le _).output
   ·obtain ⟨us,⟨T,q1⟩,q2⟩:=r2 i b ds h1 h3
    have hbs:b<w.heap.size:=hM.lt _ (hbM _ (List.mem_of_getElem? h1))
    exact ⟨us,⟨T,(h2.block b hbs).trans q1⟩,q2.mono hHo fun _ _ h=>h⟩
  ·rw [if_neg hlen] at h hr
   obtain ⟨rfl,h2⟩:=h
   injection hr with e1 e2
   subst e1 e2
   refine ⟨.bool false,rfl,.v _ rfl trivial,.of_below h2 (Nat.le_refl _) (.inl (.inr rfl)),fun i b ds h1 h3 => ?_⟩
   obtain ⟨us,⟨T,q1⟩,q2⟩:=hC i b ds h1 h3
   have hbs:b<w.heap.size:=hM.lt _ (hbM _ (List.mem_of_getElem? h1))
   exact ⟨us,⟨T,(h2.block b hbs).trans q1⟩,q2.mono (Holds.of_below h2) fun _ _ h=>h⟩
structure Pw where
 r:Int
 id:Int
 n:Int
 d:Int
 b:Int
def pcX:List Str→Pw × Bool
 | [a,b,c,e]=>match atoV a with
  | none=>(⟨0,0,0,0,0⟩,false)
  | some r=>match atoV b with
   | none=>(⟨r,0,0,0,0⟩,false)
   | some id=>match frV c with
    | none=>(⟨r,id,0,0,0⟩,false)
    | some q=>match atoV e with
     | none=>(⟨r,id,q.1,q.2,0⟩,false)
     | some v=>(⟨r,id,q.1,q.2,v⟩,true)
 | _=>(⟨0,0,0,0,0⟩,false)
theorem pcX_is (n d:Int) (w:List Str):pcdP n d w=if (pcX w).2=true then plcV (pcX w).1.id ((pcX w).1.n,(pcX w).1.d) (pcX w).1.b n d else none:=by
 unfold pcdP pcX
 match w with
 | [a,b,c,e] =>
  rcases h1:atoV a with _|i
  ·simp [h1]
  ·rcases h2:atoV b with _|j
   ·simp [h1,h2]
   ·rcases h3:frV c with _|q
    ·simp [h1,h2,h3]
    ·rcases h4:atoV e with _|v<;>simp [h1,h2,h3,h4]
 | []=>rfl
 | [_]=>rfl
 | [_,_]=>rfl
 | [_,_,_]=>rfl
 | _::_::_::_::_::_=>rfl
theorem pc_ptr (t:List Str) (hl:t.length≤1000000) (hs:∀ x∈t,x.length≤1000000):FnPtr Tryz.prog 45 [.one (strs t)] [(136,0,0),(136,2,0),(93,1,0),(145,2,2)] [[i64 0],[i64 0,i64 0],[i64 0,i64 0,i64 0]] (.c (.one (bol (pcX t).2)))
  [[i64 (pcX t).1.r],[i64 (pcX t).1.n,i64 (pcX t).1.d],[i64 (pcX t).1.id,i64 0,i64 (pcX t).1.b]]:=by
 refine scan_ptr t _ _ _ _ hl (by decide) hs (fun u hu => ?_) ?_
 ·simp only [List.mem_cons,List.not_mem_nil,or_false] at hu
  rcases hu with rfl|rfl|rfl|rfl
  ·exact ⟨.inr (.inr rfl),_,rfl,by decide,fun h=>by revert h;decide⟩
  ·exact ⟨.inr (.inr rfl),_,rfl,by decide,fun h=>by revert h;decide⟩
  ·exact ⟨.inl rfl,_,rfl,by decide,fun h=>by decide⟩
  ·exact ⟨.inr (.inl rfl),_,rfl,by decide,fun h=>by revert h;decide⟩
 ·have r0:¬ (136:TypeId)=93:=by decide
  have r1:¬ (145:TypeId)=93:=by decide
  unfold pcX
  match t with
  | [a,b,c,e] =>
   rcases h1:atoV a with _|i
   ·simp [scanD,putD,setC,h1,r0,r1]
   ·rcases h2:atoV b with _|j
    ·simp [scanD,putD,setC,h1,h2,r0,r1]
    ·rcases h3:frV c with _|q
     ·simp [scanD,putD,setC,h1,h2,h3,r0,r1]
     ·rcases h4:atoV e with _|v<;>simp [scanD,putD,setC,h1,h2,h3,h4,r0,r1]
  | []=>rfl
  | [_]=>rfl
  | [_,_]=>rfl
  | [_,_,_]=>rfl
  | _::_::_::_::_::_=>simp
theorem now_ptr (s:Str) (hs:s.length≤1000000):FnPtr Tryz.prog 45 [.one (strs [s])] [(93,0,0)] [[i64 0,i64 0,.nil 3]] (.c (.one (bol (frV s).isSome))) [[i64 ((frV s).getD (0,0)).1,i64 ((frV s).getD (0,0)).2,.nil 3]]:=by
 refine scan_ptr [s] _ _ _ _ (by simp) (by decide) (fun x hx=>by obtain rfl:=List.mem_singleton.1 hx;exact hs) (fun u hu => ?_) ?_
 ·obtain rfl:=List.mem_singleton.1 hu
  exact ⟨.inl rfl,_,rfl,by show 0<3;decide,fun _=>by show 0+1<3;decide⟩
 ·rcases h1:frV s with _|q<;>simp [scanD,putD,setC,h1]
end Go.Proofs.YtfkfficabeclcaaGreatDoor

namespace Go.Proofs.YtfkfficabeclcaaGreatDoor
open Go Go.RowKit
namespace Sx
def TyB:List (Nat × TD):=(20,.sc (.v .nilIface))::(85,.sl 1 false [.v .nilIface])::Ty
theorem ty_allB:TysOK Tryz.prog TyB:=⟨⟨Tryz.sizeOf20,Tryz.isAgg20,⟨_,Tryz.zeroValue20,fun _ _=>⟨.v _ rfl (wfB_iff rfl),trivial⟩⟩,trivial⟩,
 ⟨Tryz.sizeOf85,Tryz.isAgg85,⟨_,Tryz.zeroValue85,fun _ _=>⟨.nl _,trivial⟩⟩,sl_ty Tryz.underlying85 Tryz.sizeOf20 Tryz.isAgg20 Tryz.zeroValue20 rfl (show Tryz.prog.info? 20=some Tryz.t20 by kernel_rfl) rfl rfl rfl (fun _ _=>⟨.v _ rfl (wfB_iff rfl),trivial⟩) rfl⟩,ty_all⟩
theorem ty_okKB (K mu co me:List Nat):ΓOK Tryz.prog ⟨TyB,K,mu,co,me,false⟩:=tys_ok ty_allB
end Sx
end Go.Proofs.YtfkfficabeclcaaGreatDoor

namespace Go.Proofs.YtfkfficabeclcaaGreatDoor
open Go Go.RowKit Go.Sort Sx
open Go.Lib hiding intOf
set_option maxRecDepth 2000
theorem joined_fn (word:Str) (ps:List Pp) (hw:word.length≤100) (hl:ps.length≤9000) (hok:∀ p∈ps,p.ok):FnOK Tryz.prog 38 [.one (str word),.one (.list 1 (ps.map fun p=>[.v p.v]))] (.c (.one (str (joinS (word::ps.map Pp.s))))):=by
 refine fun w M vs hM hvs=>.inl ⟨38,Tryz.call38 _ _,?_⟩
 match vs,hvs with
 | [u,v],hvs =>
  obtain ⟨h1,h2,_⟩:=hvs
  have h1:=rep_str h1
  subst h1
  exact (joined_any word ps hw hl hok w hM.gd v (h2.mono (Holds.refl _ _) (fun _ _ h=>h.elim))).mono fun e w' ⟨he,hb⟩=>⟨_,he,.v _ rfl trivial,hb⟩
 | [],hvs=>exact hvs.elim
 | [_],hvs=>exact hvs.2.elim
 | _::_::_::_,hvs=>exact hvs.2.2.elim
theorem po_mi {o:Oper} {t:TypeId} {x:Operand} {u:Value} {td:TypeDesc} (ho:o.op=.makeInterface t x) (ht:Tryz.prog.underlying t=some td) (hn:∀ y,td≠.interface y):PureOp Tryz.prog o [u] (.iface t u):=by
 refine ⟨rfl,trivial,fun f hf w => ?_⟩
 rw [ho] at hf
 simp only [Op.operands,List.map_cons,List.map_nil,List.cons.injEq,and_true] at hf
 have e:(Instr.makeInterface t u).run Tryz.prog w=.ok (.iface t u) w:=by
  unfold Instr.makeInterface
  rw [Sem.run_bind,run_underlying ht]
  cases td<;>first|exact absurd rfl (hn _)|(simp [go_sem])
 simp [execOp,ho,hf,e,Result.andThen]
theorem zmi {o:Oper} {x:Operand} {u:Value} {K:Value→Prop} (k:K (.iface 3 u)) (ho:o.op=.makeInterface 3 x:=by rfl):∃ v,PureOp Tryz.prog o [u] v∧K v:=⟨_,po_mi ho Tryz.underlying3 (fun _ h=>by cases h),k⟩
theorem zml {o:Oper} {x:Operand} {u:Value} {K:Value→Prop} (k:K (.iface 2 u)) (ho:o.op=.makeInterface 2 x:=by rfl):∃ v,PureOp Tryz.prog o [u] v∧K v:=⟨_,po_mi ho Tryz.underlying2 (fun _ h=>by cases h),k⟩
theorem zmr {o:Oper} {x:Operand} {u:Value} {K:Value→Prop} (k:K (.iface 25 u)) (ho:o.op=.makeInterface 25 x:=by rfl):∃ v,PureOp Tryz.prog o [u] v∧K v:=⟨_,po_mi ho Tryz.underlying25 (fun _ h=>by cases h),k⟩
def mParts (m:Mt):List Pp:=[.r m.n m.d,.i m.i,.i m.j]
theorem parts_words:∀ l:List Mt,(l.flatMap mParts).map Pp.s=l.flatMap mWords
 | []=>rfl
 | m::l=>by rw [List.flatMap_cons,List.map_append,parts_words l];rfl
theorem parts_len:∀ l:List Mt,(l.flatMap mParts).length=3*l.length
 | []=>rfl
 | m::l=>by rw [List.flatMap_cons,List.length_append,parts_len l,List.length_cons];show 3+_=_;omega
abbrev pds (l:List Pp):List (List Sx.D):=l.map fun p=>[.v p.v]
theorem pds_app (a b:List Pp):pds (a++b)=pds a++pds b:=List.map_append ..
theorem joinS_text {r:Rp} {w:Str} {ps:List Pp} (h:rWords r=w::ps.map Pp.s):joinS (w::ps.map Pp.s)=rText r:=by unfold rText;rw [h]
set_option maxRecDepth 100000 in
set_option maxHeartbeats 4000000 in
theorem tReply_fn (r:Rp) (hl0:r.ms.length≤1000000):FnOK Tryz.prog 10 [r.dc] (retS (replyV r)):=by
 have HC:=tCheck_fn r hl0
 unfold replyV
 rcases rchk_08 r with h0|h8
 ·rw [if_pos h0]
  rw [h0] at HC
  rcases rchk_cases h0 with ⟨h1,h2,h3⟩|⟨h1,h2,h3⟩|⟨h0,h1,h2,h3,h4⟩|⟨h0,h1,h2,h3,h4,h5,h6⟩|h1
  ·have hE:=words_e (show r.e≠0 by omega)
   have J:=joined_fn wErr [.i r.e] (by decide) (by simp) (fun p hp=>by obtain rfl:=List.mem_singleton.1 hp;exact ⟨by omega,by omega⟩)
   rw [joinS_text (r:=rpE r.e) (by rw [hE];rfl),← h3] at J
   obtain ⟨T,hT⟩:∃ T,T=rText r:=⟨_,rfl⟩
   rw [← hT] at J ⊢
   replace J:FnOK Tryz.prog 38 [.one (str [101,114,114,111,114]),.one (.list 1 [[.v (.iface 3 (.int .i64 r.e))]])] (.c (.one (str T))):=J
   clear hT h3 hE
   obtain ⟨e,i,j,n,d,l⟩:=r
   simp only [Rp.dc] at *
   refine fn_ok (by kernel_rfl) (ty_okKB [] [] [] []) Tryz.func10 rfl (fun _ _=>Tryz.call10 _ _) rfl ?_
   intro hw
   clear hw
   repeat' ((conv=>whnf);first|(with_reducible first|refine br_t ?_|refine br_f ?_|refine za ?_|refine zg ?_)|refine zmi ?_|refine zml ?_|refine zmr ?_|refine zsl ?_|refine zsg ?_|refine zss ?_|refine zs1 ?_|refine zse ?_|refine zsn ?_|refine zsc ?_|(with_reducible first|refine zpa ?_|refine zqa ?_)|refine zp ?_|refine zq ?_|(with_reducible first|refine bc (fun h => ?_) (fun h => ?_)|refine zt ?_|refine zf ?_|refine br_i (fun h => ?_) (fun h => ?_))|refine zg ?_|refine zi ?_|refine zb ?_)
   all_goals conv=>whnf
   all_goals rfl
  ·have hM:=words_m h1
   have hp:0<r.ms.length:=List.length_pos_iff.2 h1
   have hll:(r.ms.map Mt.c).length=r.ms.length:=List.length_map ..
   have hle:r.ms.length≤2016:=by unfold mtR at h2;simp only [Bool.and_eq_true,decide_eq_true_eq] at h2;exact h2.2
   have hmo:=mRun_ok (p:=none) (l:=r.ms) (by unfold mtR at h2;simp only [Bool.and_eq_true] at h2;exact h2.1)
   have hT0:joinS (wMeet::(r.ms.flatMap mParts).map Pp.s)=rText r:=joinS_text (by rw [h3,hM,parts_words])
   obtain ⟨T,hT⟩:∃ T,T=rText r:=⟨_,rfl⟩
   rw [← hT] at hT0 ⊢
   clear hT hM h2 h0
   rw [h3] at HC ⊢
   generalize r.ms=l at *
   clear h3 r
   simp only [Rp.dc] at *
   refine fn_ok (by kernel_rfl) (ty_okKB [5,45] [] [] []) Tryz.func10 rfl (fun _ _=>Tryz.call10 _ _) rfl ?_
   intro hw
   have hwl:∀ m∈l,in64 m.n∧in64 m.d:=fun m hm=>by
    have h:=hw.1.2.2.2.2.2.1
    obtain ⟨_,_,h3⟩:=WD_list.1 h
    have h4:=h3 m.c (List.mem_map_of_mem hm)
    exact ⟨wd_i64.1 (h4 _ (by simp [Mt.c])),wd_i64.1 (h4 _ (by simp [Mt.c]))⟩
   clear hw
   have hpl:=parts_len l
   have J:=joined_fn wMeet (l.flatMap mParts) (by decide) (by omega) (fun p hp=>by
    obtain ⟨m,hm,hp⟩:=List.mem_flatMap.1 hp
    obtain ⟨c1,c2,c3,c4⟩:=mOk_i.1 (hmo m hm)
    unfold mParts at hp
    simp only [List.mem_cons,List.not_mem_nil,or_false] at hp
    rcases hp with rfl|rfl|rfl
    ·exact hwl m hm
    ·exact ⟨by omega,by omega⟩
    ·exact ⟨by omega,by omega⟩)
   rw [hT0] at J
   have J2:FnOK Tryz.prog 38 [.one (str [109,101,101,116,105,110,103,115]),.one (.list 1 (pds ((l.take l.length).flatMap mParts)))] (.c (.one (str T))):=by rw [List.take_length];exact J
   clear J hT0
   repeat' ((conv=>whnf);first|(with_reducible first|refine br_t ?_|refine br_f ?_|refine za ?_|refine zg ?_|refine zo ?_)|refine zsl ?_|refine zsg ?_|refine zss ?_|refine zs1 ?_|refine zse ?_|refine zsn ?_|refine zsc ?_|(with_reducible first|refine zpa ?_|refine zqa ?_)|refine zp ?_|refine zq ?_|(with_reducible first|refine bc (fun h => ?_) (fun h => ?_)|refine zt ?_|refine zf ?_|refine br_i (fun h => ?_) (fun h => ?_))|refine zg ?_|refine zi ?_|refine zb ?_|refine zl ?_)
   all_goals conv=>whnf
   refine loop_J (by kernel_rfl) (ty_okKB [5,45] [] [] []) (σ:=Nat) (fun i=>[(30,sV (.int .i64 (i:Nat))),(5,.c (.at (.osl 5 0)))]) (fun i=>[(5,.row 1 (pds ((l.take i).flatMap mParts)) 0)]) (fun i=>i≤l.length) (fun i=>l.length-i) 0 (Nat.zero_le _) ?_ ?_
   ·(conv=>whnf);refine ⟨by repeat' (first|with_reducible exact zE0|with_reducible refine zE1 ?_ ?_|rfl|assumption|(rfl)|exact zi1|exact zb1),by repeat' (first|with_reducible exact zH0|with_reducible refine zH1 ?_ ?_|rfl|assumption|(rfl)),rfl⟩
   intro i hi
   have hpi:=parts_len (l.take i)
   have hti:(l.take i).length=i:=by rw [List.length_take];omega
   have hol:(pds ((l.take i).flatMap mParts)).length=3*i:=by rw [List.length_map,hpi,hti]
   rcases Nat.lt_or_ge i l.length with hlt|hge
   ·have hel:=mts_get hlt
    have ew:IntKind.i64.wrap ((i:Int)+1)=((i+1:Nat):Int):=by rw [IntWalk.i64_in _ (by omega)];omega
    have hss:pds ((l.take i).flatMap mParts)++([[D.v (.iface 25 (.agg #[.int .i64 l[i].n,.int .i64 l[i].d]))],[D.v (.iface 3 (.int .i64 l[i].i))],[D.v (.iface 3 (.int .i64 l[i].j))]]:List (List Sx.D))=pds ((l.take (i+1)).flatMap mParts):=by
     rw [List.take_succ_eq_append_getElem hlt,List.flatMap_append,pds_app];rfl
    have hol2:(pds ((l.take i).flatMap mParts)++([[D.v (.iface 25 (.agg #[.int .i64 l[i].n,.int .i64 l[i].d]))],[D.v (.iface 3 (.int .i64 l[i].i))],[D.v (.iface 3 (.int .i64 l[i].j))]]:List (List Sx.D))).length≤1000000:=by rw [List.length_append,hol];simp;omega
    clear J2 hmo hwl
    generalize l[i]=m at *
    obtain ⟨m1,m2,m3,m4⟩:=m
    simp only at hel hss hol2
    repeat' ((conv=>whnf);first|(with_reducible first|refine br_t ?_|refine br_f ?_|refine za ?_|refine zg ?_|refine zo ?_)|refine zmi ?_|refine zml ?_|refine zmr ?_|exact hol2|refine zsl ?_|refine zsg ?_|refine zss ?_|refine zs1 ?_|refine zse ?_|refine zsn ?_|refine zsc ?_|(with_reducible first|refine zpa ?_|refine zqa ?_)|refine zp ?_|refine zq ?_|(with_reducible first|refine bc (fun h => ?_) (fun h => ?_)|refine zt ?_|refine zf ?_|refine br_i (fun h => ?_) (fun h => ?_))|refine zg ?_|refine zi ?_|refine zb ?_|refine zl ?_)
    all_goals conv=>whnf
    refine ⟨i+1,by omega,?_,by omega⟩
    rw [← ew]
    (conv=>whnf);refine ⟨by repeat' (first|with_reducible exact zE0|with_reducible refine zE1 ?_ ?_|rfl|assumption|((exact congrArg (fun x=>some (Blk.row 1 x 0)) hss))|exact zi1|exact zb1),by repeat' (first|with_reducible exact zH0|with_reducible refine zH1 ?_ ?_|rfl|assumption|((exact congrArg (fun x=>some (Blk.row 1 x 0)) hss))),rfl⟩
   ·obtain rfl:i=l.length:=by omega
    obtain ⟨a,b,hab⟩:∃ a b,pds ((l.take l.length).flatMap mParts)=a::b:=by
     cases hc:pds ((l.take l.length).flatMap mParts) with
     | nil=>rw [hc] at hol;simp at hol;omega
     | cons a b=>exact ⟨a,b,rfl⟩
    rw [hab] at J2 ⊢
    repeat' ((conv=>whnf);first|(with_reducible first|refine br_t ?_|refine br_f ?_|refine za ?_|refine zg ?_|refine zo ?_)|refine zl ?_ J2|refine zsl ?_|refine zsg ?_|refine zss ?_|refine zs1 ?_|refine zse ?_|refine zsn ?_|refine zsc ?_|(with_reducible first|refine zpa ?_|refine zqa ?_)|refine zp ?_|refine zq ?_|(with_reducible first|refine bc (fun h => ?_) (fun h => ?_)|refine zt ?_|refine zf ?_|refine br_i (fun h => ?_) (fun h => ?_))|refine zg ?_|refine zi ?_|refine zb ?_|refine zl ?_)
    all_goals conv=>whnf
    all_goals rfl
  ·have hE:=words_l (i:=r.i) (n:=r.n) h0
   have J:(in64 r.n∧in64 r.d)→FnOK Tryz.prog 38 [.one (str wLeader),.one (.list 1 (([.i r.i,.r r.n r.d]:List Pp).map fun p=>[.v p.v]))] (.c (.one (str (joinS (wLeader::([.i r.i,.r r.n r.d]:List Pp).map Pp.s))))):=fun hin=>joined_fn wLeader [.i r.i,.r r.n r.d] (by decide) (by simp) (fun p hp=>by
    simp only [List.mem_cons,List.not_mem_nil,or_false] at hp
    rcases hp with rfl|rfl
    ·exact ⟨by omega,by omega⟩
    ·exact hin)
   rw [joinS_text (r:=⟨0,r.i,0,r.n,r.d,[]⟩) (by rw [hE];rfl),← h4] at J
   obtain ⟨T,hT⟩:∃ T,T=rText r:=⟨_,rfl⟩
   rw [← hT] at J ⊢
   clear hT hE
   obtain ⟨e,i,j,n,d,l⟩:=r
   simp only [Rp.mk.injEq,true_and] at h4
   obtain ⟨rfl,rfl,rfl⟩:=h4
   simp only [Rp.dc] at *
   replace HC:FnOK Tryz.prog 11 [.agg [i64 0,i64 i,i64 0,i64 n,i64 d,.list 4 []]] (ret1 0):=HC
   show FnOK Tryz.prog 10 [.agg [i64 0,i64 i,i64 0,i64 n,i64 d,.list 4 []]] _
   refine fn_ok (by kernel_rfl) (ty_okKB [] [] [] []) Tryz.func10 rfl (fun _ _=>Tryz.call10 _ _) rfl ?_
   intro hw
   have hw1:in64 n∧in64 d:=by
    simp only [WDCs,WDC,WDs,wd_i64] at hw
    unfold in64;omega
   clear hw
   replace J:FnOK Tryz.prog 38 [.one (str [108,101,97,100,101,114]),.one (.list 1 [[.v (.iface 3 (.int .i64 i))],[.v (.iface 25 (.agg #[.int .i64 n,.int .i64 d]))]])] (.c (.one (str T))):=J hw1
   repeat' ((conv=>whnf);first|(with_reducible first|refine br_t ?_|refine br_f ?_|refine za ?_|refine zg ?_)|refine zmi ?_|refine zml ?_|refine zmr ?_|refine zsl ?_|refine zsg ?_|refine zss ?_|refine zs1 ?_|refine zse ?_|refine zsn ?_|refine zsc ?_|(with_reducible first|refine zpa ?_|refine zqa ?_)|refine zp ?_|refine zq ?_|(with_reducible first|refine bc (fun h => ?_) (fun h => ?_)|refine zt ?_|refine zf ?_|refine br_i (fun h => ?_) (fun h => ?_))|refine zg ?_|refine zi ?_|refine zb ?_)
   all_goals conv=>whnf
   all_goals rfl
  ·have hE:=words_p (i:=r.i) (j:=r.j) (n:=r.n) h0 (by omega)
   have J:(in64 r.n∧in64 r.d)→FnOK Tryz.prog 38 [.one (str wPair),.one (.list 1 (([.i r.i,.i r.j,.r r.n r.d]:List Pp).map fun p=>[.v p.v]))] (.c (.one (str (joinS (wPair::([.i r.i,.i r.j,.r r.n r.d]:List Pp).map Pp.s))))):=fun hin=>joined_fn wPair [.i r.i,.i r.j,.r r.n r.d] (by decide) (by simp) (fun p hp=>by
    simp only [List.mem_cons,List.not_mem_nil,or_false] at hp
    rcases hp with rfl|rfl|rfl
    ·exact ⟨by omega,by omega⟩
    ·exact ⟨by omega,by omega⟩
    ·exact hin)
   rw [joinS_text (r:=⟨0,r.i,r.j,r.n,r.d,[]⟩) (by rw [hE];rfl),← h6] at J
   obtain ⟨T,hT⟩:∃ T,T=rText r:=⟨_,rfl⟩
   rw [← hT] at J ⊢
   clear hT hE
   obtain ⟨e,i,j,n,d,l⟩:=r
   simp only [Rp.mk.injEq,true_and] at h6
   obtain ⟨rfl,rfl⟩:=h6
   simp only at h0 h1 h2 h3 h4 h5
   simp only [Rp.dc] at *
   replace HC:FnOK Tryz.prog 11 [.agg [i64 0,i64 i,i64 j,i64 n,i64 d,.list 4 []]] (ret1 0):=HC
   show FnOK Tryz.prog 10 [.agg [i64 0,i64 i,i64 j,i64 n,i64 d,.list 4 []]] _
   refine fn_ok (by kernel_rfl) (ty_okKB [] [] [] []) Tryz.func10 rfl (fun _ _=>Tryz.call10 _ _) rfl ?_
   intro hw
   have hw1:in64 n∧in64 d:=by
    simp only [WDCs,WDC,WDs,wd_i64] at hw
    unfold in64;omega
   clear hw
   replace J:FnOK Tryz.prog 38 [.one (str [112,97,105,114]),.one (.list 1 [[.v (.iface 3 (.int .i64 i))],[.v (.iface 3 (.int .i64 j))],[.v (.iface 25 (.agg #[.int .i64 n,.int .i64 d]))]])] (.c (.one (str T))):=J hw1
   repeat' ((conv=>whnf);first|(with_reducible first|refine br_t ?_|refine br_f ?_|refine za ?_|refine zg ?_)|refine zmi ?_|refine zml ?_|refine zmr ?_|refine zsl ?_|refine zsg ?_|refine zss ?_|refine zs1 ?_|refine zse ?_|refine zsn ?_|refine zsc ?_|(with_reducible first|refine zpa ?_|refine zqa ?_)|refine zp ?_|refine zq ?_|(with_reducible first|refine bc (fun h => ?_) (fun h => ?_)|refine zt ?_|refine zf ?_|refine br_i (fun h => ?_) (fun h => ?_))|refine zg ?_|refine zi ?_|refine zb ?_)
   all_goals conv=>whnf
   all_goals rfl
  ·subst h1
   replace HC:FnOK Tryz.prog 11 [.agg [i64 0,i64 0,i64 0,i64 0,i64 0,.list 4 []]] (ret1 0):=HC
   show FnOK Tryz.prog 10 [.agg [i64 0,i64 0,i64 0,i64 0,i64 0,.list 4 []]] (retS ([100,111,110,101],0))
   refine fn_ok (by kernel_rfl) (ty_okKB [] [] [] []) Tryz.func10 rfl (fun _ _=>Tryz.call10 _ _) rfl ?_
   intro hw
   clear hw
   repeat' ((conv=>whnf);first|(with_reducible first|refine br_t ?_|refine br_f ?_|refine za ?_|refine zg ?_)|refine zmi ?_|refine zml ?_|refine zmr ?_|refine zsl ?_|refine zsg ?_|refine zss ?_|refine zs1 ?_|refine zse ?_|refine zsn ?_|refine zsc ?_|(with_reducible first|refine zpa ?_|refine zqa ?_)|refine zp ?_|refine zq ?_|(with_reducible first|refine bc (fun h => ?_) (fun h => ?_)|refine zt ?_|refine zf ?_|refine br_i (fun h => ?_) (fun h => ?_))|refine zg ?_|refine zi ?_|refine zb ?_)
   all_goals conv=>whnf
   all_goals rfl
 ·rw [if_neg (by omega)]
  rw [h8] at HC
  obtain ⟨e,i,j,n,d,l⟩:=r
  simp only [Rp.dc] at *
  refine fn_ok (by kernel_rfl) (ty_okKB [] [] [] []) Tryz.func10 rfl (fun _ _=>Tryz.call10 _ _) rfl ?_
  intro hw
  clear hw
  repeat' ((conv=>whnf);first|(with_reducible first|refine br_t ?_|refine br_f ?_|refine za ?_|refine zg ?_)|refine zsl ?_|refine zsg ?_|refine zss ?_|refine zs1 ?_|refine zse ?_|refine zsn ?_|refine zsc ?_|(with_reducible first|refine zpa ?_|refine zqa ?_)|refine zp ?_|refine zq ?_|(with_reducible first|refine bc (fun h => ?_) (fun h => ?_)|refine zt ?_|refine zf ?_|refine br_i (fun h => ?_) (fun h => ?_))|refine zg ?_|refine zi ?_|refine zb ?_)
  all_goals conv=>whnf
  all_goals rfl
end Go.Proofs.YtfkfficabeclcaaGreatDoor

namespace Go.Proofs.YtfkfficabeclcaaGreatDoor
open Go Go.RowKit Go.Sort Sx
open Go.Lib hiding intOf
set_option maxRecDepth 2000
theorem zbi {B:Prop} (k:B):Boxes Tryz.prog 136∧B:=⟨⟨_,Tryz.underlying136,fun _ h=>by cases h⟩,k⟩
theorem zbl {B:Prop} (k:B):Boxes Tryz.prog 145∧B:=⟨⟨_,Tryz.underlying145,fun _ h=>by cases h⟩,k⟩
theorem zbr {B:Prop} (k:B):Boxes Tryz.prog 93∧B:=⟨⟨_,Tryz.underlying93,fun _ h=>by cases h⟩,k⟩
def pcZ (x:Pw) (ok:Bool) (n d:Int):Pt × Bool :=
 if ok=true then
  (if (mulV x.b 1 n d).2.2=0 then (⟨x.id,(subV x.n x.d (mulV x.b 1 n d).1 (mulV x.b 1 n d).2.1).1,x.b⟩,decide ((subV x.n x.d (mulV x.b 1 n d).1 (mulV x.b 1 n d).2.1).2.2=0∧(subV x.n x.d (mulV x.b 1 n d).1 (mulV x.b 1 n d).2.1).2.1=1∧cpt x.id (subV x.n x.d (mulV x.b 1 n d).1 (mulV x.b 1 n d).2.1).1 x.b=0))
  else (⟨x.id,0,x.b⟩,false))
 else (⟨x.id,0,x.b⟩,false)
theorem pcZ_is (n d:Int) (w:List Str):pcdP n d w=if (pcZ (pcX w).1 (pcX w).2 n d).2=true then some (pcZ (pcX w).1 (pcX w).2 n d).1 else none:=by
 rw [pcX_is]
 unfold pcZ plcV
 by_cases h1:(pcX w).2=true
 ·rw [if_pos h1,if_pos h1]
  by_cases h2:(mulV (pcX w).1.b 1 n d).2.2=0
  ·rw [if_pos h2,if_pos h2]
   split
   ·rename_i h;rw [if_pos (decide_eq_true h)]
   ·rename_i h;rw [if_neg (by simpa using h)]
  ·rw [if_neg h2,if_neg h2];rfl
 ·rw [if_neg h1,if_neg h1];rfl
abbrev retPb (x:Pt × Bool):DV:=.tup [x.1.dc,.one (bol x.2)]
set_option maxRecDepth 100000 in
set_option maxHeartbeats 4000000 in
theorem tplaced_fn (t:List Str) (n d:Int) (hl:t.length≤1000000) (hs:∀ x∈t,x.length≤1000000):FnOK Tryz.prog 46 [.one (strs t),rat n d] (retPb (pcZ (pcX t).1 (pcX t).2 n d)):=by
 have HP:=pc_ptr t hl hs
 generalize pcX t=p at *
 obtain ⟨⟨xr,xi,xn,xd,xb⟩,ok⟩:=p
 simp only at HP
 have Hm:=mul_fn xb 1 n d
 unfold pcZ
 simp only
 cases ok
 ·rw [if_neg (by decide)]
  clear Hm
  simp only [retPb,Pt.dc]
  refine fn_ok (by kernel_rfl) (ty_okKB [] [] [] []) Tryz.func46 rfl (fun _ _=>Tryz.call46 _ _) rfl ?_
  intro hw
  clear hw
  repeat' ((conv=>whnf);first|(with_reducible first|refine br_t ?_|refine br_f ?_|refine za ?_|refine zg ?_)|refine zbi ?_|refine zbl ?_|refine zbr ?_|refine ⟨_,_,HP,?_⟩|refine zsl ?_|refine zsg ?_|refine zss ?_|refine zs1 ?_|refine zse ?_|refine zsn ?_|refine zsc ?_|(with_reducible first|refine zpa ?_|refine zqa ?_)|refine zp ?_|refine zq ?_|(with_reducible first|refine bc (fun h => ?_) (fun h => ?_)|refine zt ?_|refine zf ?_|refine br_i (fun h => ?_) (fun h => ?_))|refine zg ?_|refine zi ?_|refine zb ?_)
  all_goals conv=>whnf
  all_goals rfl
 ·rw [if_pos rfl]
  generalize mulV xb 1 n d=mv at *
  obtain ⟨mn,md,me⟩:=mv
  simp only [ret3,rat2] at Hm ⊢
  by_cases hme:me=0
  ·subst hme
   rw [if_pos rfl]
   have Hs:=sub_fn xn xd mn md
   generalize subV xn xd mn md=sv at *
   obtain ⟨sn,sd,se⟩:=sv
   simp only [ret3,rat2] at Hs ⊢
   have Hc:=kCheck_fn xi sn xb
   generalize cpt xi sn xb=ck at *
   simp only [retPb,Pt.dc,ret1] at *
   by_cases h1:se=0
   ·subst h1
    by_cases h2:sd=1
    ·subst h2
     refine fn_ok (by kernel_rfl) (ty_okKB [] [] [] []) Tryz.func46 rfl (fun _ _=>Tryz.call46 _ _) rfl ?_
     intro hw
     clear hw
     repeat' ((conv=>whnf);first|(with_reducible first|refine br_t ?_|refine br_f ?_|refine za ?_|refine zg ?_)|refine zbi ?_|refine zbl ?_|refine zbr ?_|refine ⟨_,_,HP,?_⟩|refine zsl ?_|refine zsg ?_|refine zss ?_|refine zs1 ?_|refine zse ?_|refine zsn ?_|refine zsc ?_|(with_reducible first|refine zpa ?_|refine zqa ?_)|refine zp ?_|refine zq ?_|(with_reducible first|refine bc (fun h => ?_) (fun h => ?_)|refine zt ?_|refine zf ?_|refine br_i (fun h => ?_) (fun h => ?_))|refine zg ?_|refine zi ?_|refine zb ?_)
     all_goals conv=>whnf
     all_goals
      have eck:(ck == 0)=decide ((0:Int)=0∧(1:Int)=1∧ck=0):=by by_cases h:ck=0<;>simp [h]
      rw [eck]
    ·rw [decide_eq_false (fun h=>h2 h.2.1)]
     refine fn_ok (by kernel_rfl) (ty_okKB [] [] [] []) Tryz.func46 rfl (fun _ _=>Tryz.call46 _ _) rfl ?_
     intro hw
     clear hw
     repeat' ((conv=>whnf);first|(with_reducible first|refine br_t ?_|refine br_f ?_|refine za ?_|refine zg ?_)|refine zbi ?_|refine zbl ?_|refine zbr ?_|refine ⟨_,_,HP,?_⟩|refine zsl ?_|refine zsg ?_|refine zss ?_|refine zs1 ?_|refine zse ?_|refine zsn ?_|refine zsc ?_|(with_reducible first|refine zpa ?_|refine zqa ?_)|refine zp ?_|refine zq ?_|(with_reducible first|refine bc (fun h => ?_) (fun h => ?_)|refine zt ?_|refine zf ?_|refine br_i (fun h => ?_) (fun h => ?_))|refine zg ?_|refine zi ?_|refine zb ?_)
     all_goals conv=>whnf
     all_goals rfl
   ·rw [decide_eq_false (fun h=>h1 h.1)]
    refine fn_ok (by kernel_rfl) (ty_okKB [] [] [] []) Tryz.func46 rfl (fun _ _=>Tryz.call46 _ _) rfl ?_
    intro hw
    clear hw
    repeat' ((conv=>whnf);first|(with_reducible first|refine br_t ?_|refine br_f ?_|refine za ?_|refine zg ?_)|refine zbi ?_|refine zbl ?_|refine zbr ?_|refine ⟨_,_,HP,?_⟩|refine zsl ?_|refine zsg ?_|refine zss ?_|refine zs1 ?_|refine zse ?_|refine zsn ?_|refine zsc ?_|(with_reducible first|refine zpa ?_|refine zqa ?_)|refine zp ?_|refine zq ?_|(with_reducible first|refine bc (fun h => ?_) (fun h => ?_)|refine zt ?_|refine zf ?_|refine br_i (fun h => ?_) (fun h => ?_))|refine zg ?_|refine zi ?_|refine zb ?_)
    all_goals conv=>whnf
    all_goals rfl
  ·rw [if_neg hme]
   simp only [retPb,Pt.dc]
   refine fn_ok (by kernel_rfl) (ty_okKB [] [] [] []) Tryz.func46 rfl (fun _ _=>Tryz.call46 _ _) rfl ?_
   intro hw
   clear hw
   repeat' ((conv=>whnf);first|(with_reducible first|refine br_t ?_|refine br_f ?_|refine za ?_|refine zg ?_)|refine zbi ?_|refine zbl ?_|refine zbr ?_|refine ⟨_,_,HP,?_⟩|refine zsl ?_|refine zsg ?_|refine zss ?_|refine zs1 ?_|refine zse ?_|refine zsn ?_|refine zsc ?_|(with_reducible first|refine zpa ?_|refine zqa ?_)|refine zp ?_|refine zq ?_|(with_reducible first|refine bc (fun h => ?_) (fun h => ?_)|refine zt ?_|refine zf ?_|refine br_i (fun h => ?_) (fun h => ?_))|refine zg ?_|refine zi ?_|refine zb ?_)
   all_goals conv=>whnf
   all_goals rfl
end Go.Proofs.YtfkfficabeclcaaGreatDoor

namespace Go.Proofs.YtfkfficabeclcaaGreatDoor
open Go Go.Shelf Go.RowKit Go.Lib Go.Sort Sx
set_option maxRecDepth 2000
namespace Sx
def pqS {α:Type} [Inhabited α] (cf:α→α→Int) (d:List α):List α:=(pdq (ltOf cf) d.toArray 0 d.toArray.size (Lib.bitLen d.toArray.size) true true).toList
theorem pqS_ok {α:Type} [Inhabited α] {cf:α→α→Int} (hO:SWO (ltOf cf)) (d:List α):(pqS cf d).Perm d∧(pqS cf d).Pairwise fun x y=>ltOf cf y x=false:=by
 obtain ⟨⟨hsz,_,hperm⟩,hs⟩:=pdq_sorts (ltOf cf) hO d.toArray 0 d.toArray.size (Lib.bitLen d.toArray.size) true true (Nat.zero_le _) (Nat.le_refl _) (Or.inl rfl)
 unfold pqS
 generalize pdq (ltOf cf) d.toArray 0 d.toArray.size (Lib.bitLen d.toArray.size) true true=d' at *
 have e1:d'.extract 0 d.toArray.size=d':=by rw [← hsz];exact Array.extract_size
 rw [e1,Array.extract_size] at hperm
 refine ⟨by simpa using hperm,List.pairwise_iff_getElem.2 fun i j hi hj hij => ?_⟩
 have hi':i<d'.size:=by simpa using hi
 have hj':j<d'.size:=by simpa using hj
 have:=hs i j (Nat.zero_le _) hij (by omega)
 rw [getElem!_pos d' j hj',getElem!_pos d' i hi'] at this
 simpa using this
theorem sort_muE {P:Program} {ρ:Ren} {α:Type} [Inhabited α] (L:SlLaysF0.n6 P ρ) {k:Nat} (hk0:0<k) (aE:∀ w,(isAgg (ρ.t 24)).run P w=.ok true w) (zE:∀ w,(Go.sizeOf (ρ.t 24)).run P w=.ok k w)
  (enc:α→List Value) (hk:∀ x,(enc x).length=k) (h1:∀ x,∀ v∈enc x,v.oneCell'=true∧wfV v) (cf:α→α→Int) (hO:SWO (ltOf cf)) {g:Nat} {caps:List (List D)}
  (eg:∀ args w,(callFunc g args).run P w=.ok (.enter g args) w) (es:∀ args w,(callFunc (ρ.f 6) args).run P w=.ok (.enter (ρ.f 6) args) w)
  (hcmp:∀ x y,FnD P g ([.agg ((enc x).map .v),.agg ((enc y).map .v)]++refsC caps) (.c (.one (.v (.int .i64 (cf x y)))))) (d:List α) (hsz:d.length<4611686018427387904) :
  FnMu P (ρ.f 6) k (d.map fun x=>(enc x).map .v) [.one (.clo g caps)] ((pqS cf d).map fun x=>(enc x).map .v):=by
 refine ⟨fun e he => ?_,fun w M v vs m hM hm hvs hB hv => ?_⟩
 ·obtain ⟨x,_,rfl⟩:=List.mem_map.1 he
  exact flatL_v _
 match vs,hvs with
 | [u],⟨hu,_⟩ =>
  obtain ⟨ps,rfl,hps⟩:=crefs_rel (show Rep w M (.clo g caps) u from hu)
  obtain ⟨x,rfl,hx⟩:=hv
  obtain ⟨⟨k1,k2,k3,k4,k5⟩,hreal⟩:=hB
  refine ⟨ρ.f 6,es _ _,?_⟩
  rw [List.length_map] at k2
  cases d with
  | nil =>
   have k2:0=m.len:=k2
   have e9:pqS cf []=[]:=List.length_eq_zero_iff.1 (pqS_ok hO []).1.length_eq
   rw [← k2,e9]
   refine (AnyF.slices_SortFunc_none L x m.cap _ w).mono ?_
   rintro e w' ⟨rfl,rfl⟩
   exact ⟨rfl,.refl _ _ _,⟨by simp,by simpa using k2,fun _=>by simp,rfl,k5⟩,by simpa using hreal⟩
  | cons y ys =>
   have hc0:0<m.cap:=by
    rcases Nat.eq_zero_or_pos m.cap with h|h
    ·have:=k3 h;simp at this
    ·exact h
   rw [hx hc0,← k2]
   obtain ⟨cs,⟨T,hcs⟩,c1,c2,c3,vals,rest,c4,c5⟩:=hreal (by simpa [Blk.real] using hc0)
   rw [flatten_v] at c5
   have hvals:=dsR_flat c5
   generalize hd:y::ys=d at *
   have hm':∀ x∈d.map enc,x.length=k:=fun x hx=>by obtain ⟨y,_,rfl⟩:=List.mem_map.1 hx;exact hk y
   have hfl:(d.map enc).flatten.length=d.length*k:=by rw [flat_len2 hm',List.length_map]
   have hbl:m.b<w.heap.size:=hM _ (hm hc0)
   have hH:HoldsK enc k w m.b 0 d.toArray:=by
    intro j hj
    have hj':j<d.length*k:=by simpa using hj
    rw [Nat.zero_add]
    refine ⟨?_,frozen_of_row w m.b j cs.toArray T hcs⟩
    rw [cell_of ⟨T,hcs⟩,c4,List.getElem?_append_left (by rw [hvals,hfl];exact hj'),hvals,← flatK_toList hk0 hk,Array.getElem?_toList,getElem!_pos (flatK enc k d.toArray) j hj,Array.getElem?_eq_getElem hj]
    rfl
   have hHold:∀ n (dk:Array α) os,Sx.Holds M w (sortWorldK enc k w m.b 0 n dk os):=fun n dk os =>
    ⟨size_sort,fun b hb hMb _=>heap_sort_other hb fun e=>hMb (by rw [e];exact hm hc0)⟩
   have hC:CmpLays P g ps.toArray enc k cf m.b 0 d.toArray.size w:=by
    intro n os dk hdk a b
    have hargs:DCsR (sortWorldK enc k w m.b 0 n dk os) M ([.agg ((enc a).map .v),.agg ((enc b).map .v)]++refsC caps) ([.agg (enc a).toArray,.agg (enc b).toArray]++ps) :=
     ⟨⟨_,rfl,dsR_of_flat (h1 a)⟩,⟨_,rfl,dsR_of_flat (h1 b)⟩,hps.mono (hHold n dk os) (fun _ _ h=>h)⟩
    rcases hcmp a b _ M _ ⟨fun b hb=>Nat.lt_of_lt_of_le (hM b hb) size_sort,gd_keep size_sort (fun b hb=>heap_sort_other (Nat.lt_of_lt_of_le hb (gd_size hM.gd)) fun e=>by have:=hM.ge _ (hm hc0);omega) hM.gd,hM.ge⟩ hargs with ⟨g',hg,hc⟩|⟨_,hg,_⟩
    ·rw [eg] at hg
     injection hg with h2
     injection h2 with h2
     subst h2
     have e:(#[Value.agg (enc a).toArray,.agg (enc b).toArray]++ps.toArray:Array Value)=([Value.agg (enc a).toArray,Value.agg (enc b).toArray]++ps).toArray:=by simp
     rw [e]
     refine hc.mono ?_
     rintro e w' ⟨u,rfl,hu,hb,hdr⟩
     have hu:Rep w' M (.v (.int .i64 (cf a b))) u:=hu
     cases hu
     obtain ⟨q,hq⟩:=regrown_of_below hb
     have hqd:w'.drawn=q.d:=by rw [hq];rfl
     refine ⟨rfl,q.d-(sortWorldK enc k w m.b 0 n dk os).drawn,q.os,?_⟩
     rw [hq]
     unfold redrawn World.drewN
     rw [show (sortWorldK enc k w m.b 0 n dk os).drawn+(q.d-(sortWorldK enc k w m.b 0 n dk os).drawn)=q.d by omega]
    ·rw [eg] at hg
     injection hg with h2
     cases h2
   have hlaw:=AnyQ.slices_SortFunc_eq L k aE zE enc hk (fun x v hv=>(h1 x v hv).1) cf hO g ps.toArray m.b 0 m.cap d.toArray w eg hC hH hbl (by simpa using hsz)
   have e0:d.toArray.size=d.length:=by simp
   have e9:pdq (ltOf cf) d.toArray 0 d.toArray.size (Lib.bitLen d.toArray.size) true true=(pqS cf d).toArray:=by unfold pqS;simp
   rw [e9] at hlaw
   rw [e0] at hlaw
   refine hlaw.mono ?_
   rintro e w' ⟨rfl,n,os,rfl⟩
   have hsl0:=(pqS_ok hO d).1.length_eq
   generalize hs:pqS cf d=s at *
   have hsl:s.length=d.length:=hsl0
   have hms:∀ x∈s.map enc,x.length=k:=fun x hx=>by obtain ⟨y,_,rfl⟩:=List.mem_map.1 hx;exact hk y
   have hsfl:(s.map enc).flatten.length=d.length*k:=by rw [flat_len2 hms,List.length_map,hsl]
   refine ⟨rfl,⟨rfl,rfl,rfl,size_sort,fun b hb hne=>heap_sort_other hb fun e=>hne ⟨hc0,e⟩,.inr ?_⟩,⟨fun x hx => ?_,by rw [List.length_map,hsl,k2],fun h=>by omega,rfl,k5⟩,fun _ => ?_⟩
   ·show w.drawn≤w.drawn+n
    omega
   ·obtain ⟨y,_,rfl⟩:=List.mem_map.1 hx
    rw [List.length_map];exact hk y
   ·have hsize:(flatK enc k s.toArray).size=d.length*k:=by simp [hsl]
    have hle:(flatK enc k s.toArray).size≤cs.length:=by rw [hsize,c3];exact Nat.mul_le_mul_right _ (by simpa using c1)
    refine ⟨(flatK enc k s.toArray).toList++cs.drop (flatK enc k s.toArray).size,⟨T,?_⟩,by rw [List.length_map,hsl];simpa using c1,c2,?_,(flatK enc k s.toArray).toList,cs.drop (flatK enc k s.toArray).size,rfl,?_⟩
    ·rw [heap_sort hcs,← put_flat hle]
    ·rw [List.length_append,Array.length_toList,List.length_drop]
     omega
    ·rw [flatten_v,flatK_toList hk0 hk]
     exact dsR_of_flat fun v hv=>by
      obtain ⟨x,hx,hvx⟩:=List.mem_flatten.1 hv
      obtain ⟨z,_,rfl⟩:=List.mem_map.1 hx
      exact h1 z v hvx
end Sx
theorem tsort1_fnd (p q:Pt):FnD Tryz.prog 48 [p.dc,q.dc] (ret1 (cmpN p.id q.id)):=by
 have H:=cmpint_fnd p.id q.id
 refine fn_okD (by kernel_rfl) ty_okD rfl Tryz.func48 rfl (fun _ _=>Tryz.call48 _ _) rfl ?_
 intro hw
 clear hw
 repeat' ((conv=>whnf);first|(with_reducible first|refine br_t ?_|refine br_f ?_|refine zd ?_|refine za ?_|refine zg ?_)|refine zp ?_|refine zq ?_|(with_reducible first|refine bc (fun h => ?_) (fun h => ?_)|refine zt ?_|refine zf ?_|refine br_i (fun h => ?_) (fun h => ?_))|refine zg ?_|refine zi ?_|refine zb ?_)
 all_goals conv=>whnf
 all_goals rfl
theorem sortId_mu (l:List Pt) (hl:∀ p∈l,p.chk=0) (hsz:l.length≤1000000):∃ L:List Pt,L.Perm l∧(L.Pairwise fun a b=>a.id≤b.id)∧FnMu Tryz.prog 47 3 (l.map Pt.c) [.one (.clo 48 [])] (L.map Pt.c):=by
 have swo:∀ {α:Type} (f:α→Int),SWO (ltOf fun x y:α=>cmpN (f x) (f y)):=fun f=>by
  refine ⟨fun p => ?_,fun p q r h1 h2 => ?_,fun p q r h1 h2 => ?_⟩
  ·unfold ltOf cmpN;simp
  ·unfold ltOf cmpN at *;simp only [decide_eq_true_eq] at *;(repeat' split at h1)<;>(repeat' split at h2)<;>(repeat' split)<;>omega
  ·unfold ltOf cmpN at *;simp only [decide_eq_false_iff_not] at *;(repeat' split at h1)<;>(repeat' split at h2)<;>(repeat' split)<;>omega
 cases l with
 | nil =>
  have:=sort_muE (P:=Tryz.prog) (ρ:=Tryz.sortPt_ren) (α:=Unit) (k:=3) Tryz.sortPt (by decide) Tryz.isAgg43 Tryz.sizeOf43 (fun _=>[.int .i64 0,.int .i64 0,.int .i64 0]) (fun _=>rfl) (fun _ v hv=>by simp at hv;subst hv;exact ⟨rfl,WD_v.1 (wd_i64.2 (by omega))⟩) (fun _ _=>cmpN 0 0) (swo fun _=>0) (g:=48) (caps:=[]) (fun _ _=>Tryz.call48 _ _) (fun _ _=>Tryz.call47 _ _)
   (fun _ _=>tsort1_fnd ⟨0,0,0⟩ ⟨0,0,0⟩) [] (by decide)
  have e:pqS (fun (_ _:Unit)=>cmpN 0 0) []=[]:=List.length_eq_zero_iff.1 (pqS_ok (swo fun _:Unit=>0) []).1.length_eq
  rw [e] at this
  exact ⟨[],.refl _,List.Pairwise.nil,this⟩
 | cons y ys =>
  generalize hd:y::ys=l at *
  have:Inhabited {p:Pt // p∈l}:=⟨⟨y,by rw [← hd];exact List.mem_cons_self ..⟩⟩
  have ok:=pqS_ok (swo fun p:{p:Pt // p∈l}=>p.1.id) l.attach
  have key:=sort_muE (P:=Tryz.prog) (ρ:=Tryz.sortPt_ren) (α:={p:Pt // p∈l}) (k:=3) Tryz.sortPt (by decide) Tryz.isAgg43 Tryz.sizeOf43 (fun p=>[.int .i64 p.1.id,.int .i64 p.1.a,.int .i64 p.1.b]) (fun _=>rfl) (fun p v hv=>by
    have hc:=cpt_ok (hl p.1 p.2)
    simp at hv
    rcases hv with rfl|rfl|rfl
    all_goals exact ⟨rfl,WD_v.1 (wd_i64.2 (by omega))⟩) (fun p q=>cmpN p.1.id q.1.id) (swo fun p:{p:Pt // p∈l}=>p.1.id) (g:=48) (caps:=[]) (fun _ _=>Tryz.call48 _ _) (fun _ _=>Tryz.call47 _ _)
   (fun p q=>tsort1_fnd p.1 q.1) l.attach (by simp;omega)
  have e1:(l.attach.map fun p=>([.int .i64 p.1.id,.int .i64 p.1.a,.int .i64 p.1.b]:List Value).map D.v)=l.map Pt.c:=by
   rw [show (fun p:{p:Pt // p∈l}=>([.int .i64 p.1.id,.int .i64 p.1.a,.int .i64 p.1.b]:List Value).map D.v)=Pt.c ∘ Subtype.val from rfl,← List.map_map,List.attach_map_subtype_val]
  rw [e1] at key
  refine ⟨(pqS (fun p q:{p:Pt // p∈l}=>cmpN p.1.id q.1.id) l.attach).map Subtype.val,?_,?_,?_⟩
  ·have:=ok.1.map Subtype.val
   rwa [List.attach_map_subtype_val] at this
  ·rw [List.pairwise_map]
   refine ok.2.imp fun {a b} h => ?_
   unfold ltOf cmpN at h
   simp only [decide_eq_false_iff_not] at h
   (repeat' split at h)<;>omega
  ·rw [List.map_map]
   exact key
end Go.Proofs.YtfkfficabeclcaaGreatDoor
