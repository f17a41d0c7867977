import Derived.Test.YtfkfficabeclcaaGreatDoorGLTTelAV
import Derived.Test.YtfkfficabeclcaaGreatDoorGLTTelAW
import Derived.Lib.ParseIntBTie
import Derived.Lib.AtoiErrMem
import Derived.Test.YtfkfficabeclcaaGreatDoorGLTTelAL
set_option linter.all false
namespace Go.Proofs.YtfkfficabeclcaaGreatDoor
open Go Go.RowKit Go.Sort Sx
open Go.Lib hiding intOf
theorem bsz (s:Str):(⟨s.toArray⟩:ByteArray).size=s.length:=by simp [ByteArray.size]
theorem bdl (s:Str):(⟨s.toArray⟩:ByteArray).data.toList=s:=by simp
theorem atoV_ok {s:Str} {v:Int} (h:atoV s=some v):atoiAll s=.ok v:=by
 unfold atoV at h
 split at h
 ·rename_i v' e;injection h with h;subst h;exact e
 ·cases h
theorem below_bw {w w':World} {e:TypeId} (h:w'=w∨∃ t,w'=Lib.bytesWorld w e t):Below w.heap.size w w':=by
 rcases h with rfl|⟨t,rfl⟩
 ·exact Below.refl _ _
 ·exact bytesWorld_below _ _ _
theorem atoi_yes {s:Str} {v:Int} (hs:s.length≤1000000) (h:atoV s=some v) (w:World):Calls Tryz.prog 85 #[bstr s] w fun e w'=>e=.returned (.tuple #[.int .i64 v,.nilIface])∧Below w.heap.size w w' :=
 (Tryz.strconv_Atoi_ok ⟨s.toArray⟩ (by rw [bsz];omega) v (by rw [bdl];exact atoV_ok h) w).mono fun _ _ ⟨a,b⟩=>⟨a,below_bw b⟩
theorem parse_yes {s:Str} {v:Int} (hs:s.length≤1000000) (h:atoV s=some v) (w:World):Calls Tryz.prog 86 #[bstr s,.int .i64 10,.int .i64 64] w fun e w'=>e=.returned (.tuple #[.int .i64 v,.nilIface])∧Below w.heap.size w w' :=
 (Tryz.strconv_ParseInt_10_at64_ok ⟨s.toArray⟩ (by rw [bsz];omega) v (by rw [parseIntB_64,bdl];exact atoV_ok h) w).mono fun _ _ ⟨a,b⟩=>⟨a,below_bw b⟩
theorem atoi_no {s:Str} (hs:s.length≤1000000) (h:atoV s=none) {w:World} (hg:Gd w):Calls Tryz.prog 85 #[bstr s] w fun e w'=>∃ n N,e=.returned (.tuple #[.int .i64 n,.iface 245 (.pointer (some ⟨N,0,none⟩))])∧Below w.heap.size w w':=by
 obtain ⟨t1,p1,h1⟩:=hg.es
 obtain ⟨t2,p2,h2⟩:=hg.er
 have hz:(⟨s.toArray⟩:ByteArray).size≤281474976710656:=by rw [bsz];omega
 unfold atoV at h
 rcases e:atoiAll s with v|_|_
 ·rw [e] at h;cases h
 ·exact (Tryz.strconv_Atoi_syntax_var ⟨s.toArray⟩ hz (by rw [bdl];exact e) t1 p1 w h1).mono fun _ _ ⟨N,a,_,_,b⟩=>⟨_,N,a,b⟩
 ·exact (Tryz.strconv_Atoi_range_var ⟨s.toArray⟩ hz (by rw [bdl];exact e) t2 p2 w h2).mono fun _ _ ⟨N,a,_,_,b⟩=>⟨_,N,a,b⟩
theorem parse_no {s:Str} (hs:s.length≤1000000) (h:atoV s=none) {w:World} (hg:Gd w):Calls Tryz.prog 86 #[bstr s,.int .i64 10,.int .i64 64] w fun e w'=>∃ n N,e=.returned (.tuple #[.int .i64 n,.iface 245 (.pointer (some ⟨N,0,none⟩))])∧Below w.heap.size w w':=by
 obtain ⟨t1,p1,h1⟩:=hg.es
 obtain ⟨t2,p2,h2⟩:=hg.er
 have hz:(⟨s.toArray⟩:ByteArray).size≤281474976710656:=by rw [bsz];omega
 unfold atoV at h
 rcases e:atoiAll s with v|_|_
 ·rw [e] at h;cases h
 ·exact (Tryz.strconv_ParseInt_10_at64_syntax_var ⟨s.toArray⟩ hz (by rw [parseIntB_64,bdl];exact e) t1 p1 w h1).mono fun _ _ ⟨N,a,_,_,b⟩=>⟨_,N,a,b⟩
 ·exact (Tryz.strconv_ParseInt_10_at64_range_var ⟨s.toArray⟩ hz (by rw [parseIntB_64,bdl];exact e) t2 p2 w h2).mono fun _ _ ⟨N,a,_,_,b⟩=>⟨_,N,a,b⟩
inductive Tg where
 | i (b o:Nat)
 | l (b o:Nat)
 | r (b o:Nat)
def Tg.b:Tg→Nat
 | .i b _=>b
 | .l b _=>b
 | .r b _=>b
def Tg.v:Tg→Value
 | .i b o=>.iface 136 (.pointer (some ⟨b,o,none⟩))
 | .l b o=>.iface 145 (.pointer (some ⟨b,o,none⟩))
 | .r b o=>.iface 93 (.pointer (some ⟨b,o,none⟩))
def Cel (W:World) (b o:Nat):Prop:=(∃ u,W.cell? ⟨b,o,none⟩=some u)∧W.frozen? ⟨b,o,none⟩=false
def Tg.ok (W:World):Tg→Prop
 | .i b o=>Cel W b o
 | .l b o=>Cel W b o
 | .r b o=>Cel W b o∧Cel W b (o+1)
def Tg.put (s:Str) (W:World):Tg→Option World
 | .i b o=>(atoV s).map fun n=>W.setCell ⟨b,o,none⟩ (.int .i64 n)
 | .l b o=>(atoV s).map fun n=>W.setCell ⟨b,o,none⟩ (.int .i64 n)
 | .r b o=>(frV s).map fun q=>(W.setCell ⟨b,o,none⟩ (.int .i64 q.1)).setCell ⟨b,o+1,none⟩ (.int .i64 q.2)
def scanW:List Str→List Tg→World→World × Bool
 | s::ws,t::ts,W=>match t.put s W with
  | some W'=>scanW ws ts W'
  | none=>(W,false)
 | _,_,W=>(W,true)
theorem cel_set {W:World} {b o:Nat} (h:Cel W b o) (a:Addr) (v:Value):Cel (W.setCell a v) b o:=by
 obtain ⟨⟨u,h1⟩,h2⟩:=h
 refine ⟨cell?_setCell_some h1,?_⟩
 by_cases e:b=a.block
 ·subst e
  unfold World.frozen? at h2 ⊢
  simp only [World.setCell,Array.getElem?_modify] at h2 ⊢
  cases hk:W.heap[a.block]? with
  | none=>simp [World.cell?,hk] at h1
  | some x =>
   simp only [hk] at h2 ⊢
   cases x<;>simp_all
 ·rw [World.frozen?_of_block (w:=W) (Below.heap_setCell W a v b e)];exact h2
theorem Tg.ok_set {W:World} {t:Tg} (h:t.ok W) (a:Addr) (v:Value):t.ok (W.setCell a v):=by
 cases t with
 | i b o=>exact cel_set h a v
 | l b o=>exact cel_set h a v
 | r b o=>exact ⟨cel_set h.1 a v,cel_set h.2 a v⟩
theorem cel_of {W W':World} {b o:Nat} (h:Cel W b o) (e:W'.heap[b]? = W.heap[b]?):Cel W' b o:=by
 obtain ⟨⟨u,h1⟩,h2⟩:=h
 exact ⟨⟨u,(World.cell?_of_block (w:=W) (a:=⟨b,o,none⟩) e).trans h1⟩,(World.frozen?_of_block (w:=W) (a:=⟨b,o,none⟩) e).trans h2⟩
theorem size_set (W:World) (a:Addr) (v:Value):(W.setCell a v).heap.size=W.heap.size:=by simp [World.setCell]
theorem below_set {n:Nat} {W W':World} (h:Below n W W') (a:Addr) (v:Value):Below n (W.setCell a v) (W'.setCell a v):=by
 refine ⟨h.os,h.tape,h.output,by rw [size_set,size_set];exact h.size,fun k hk => ?_⟩
 simp only [World.setCell,Array.getElem?_modify]
 rw [h.block k hk]
end Go.Proofs.YtfkfficabeclcaaGreatDoor

namespace Go.Proofs.YtfkfficabeclcaaGreatDoor
open Go Go.RowKit Go.Sort Sx
open Go.Lib hiding intOf
theorem rep_words {w:World} {M:Nat→Prop} {l:List Str} {v:Value} (h:Rep w M (strs l) v):∃ a c,v=.slice a l.length c∧∀ i (hi:i<l.length),∃ b off,a=some ⟨b,off,none⟩∧b<w.heap.size∧¬ M b∧w.cell? ⟨b,off+i,none⟩=some (bstr l[i]):=by
 obtain ⟨L,hL⟩:∃ L:List (List Sx.D),L=l.map fun s=>[str s]:=⟨_,rfl⟩
 have hll:L.length=l.length:=by rw [hL,List.length_map]
 have h':Rep w M (.list 1 L) v:=by rw [hL];exact h
 clear h
 cases h' with
 | nil k x c hm hx =>
  refine ⟨x,c,by rw [← hll];rfl,fun i hi => ?_⟩
  rw [← hll] at hi;exact absurd hi (Nat.not_lt_zero _)
 | @list b off cap k L vs hc hm hMb hb hk hv hr =>
  refine ⟨_,cap,by rw [hll],fun i hi=>⟨b,off,rfl,hb,hMb,?_⟩⟩
  have hi':i<L.length:=by omega
  have e1:L[i]=[str l[i]]:=by subst hL;rw [List.getElem_map]
  have h1:=hv i 0 hi' (by decide)
  have h2:=hr i 0 hi' (by rw [e1];exact Nat.zero_lt_one)
  have e2:L[i][0]'(by rw [e1];exact Nat.zero_lt_one)=str l[i]:=by simp only [e1];rfl
  rw [e2] at h2
  have h3:vs i 0=bstr l[i]:=by
   generalize vs i 0=u at h2
   cases h2;rfl
  rw [h3,Nat.mul_one,Nat.add_zero] at h1
  exact h1
structure Outs (w:World) (ts:List Tg) (a:Option Addr):Prop where
 at_:∀ i (hi:i<ts.length),∃ b off,a=some ⟨b,off,none⟩∧b<w.heap.size∧(∀ t∈ts,t.b≠b)∧w.cell? ⟨b,off+i,none⟩=some ts[i].v
 gl:∀ t∈ts,gl≤t.b
 lt:∀ t∈ts,t.b<w.heap.size
 ok:∀ t∈ts,t.ok w
set_option maxRecDepth 100000 in
set_option maxHeartbeats 4000000 in
theorem scan_any (ws:List Str) (ts:List Tg) (hl:ws.length≤1000000) (hlt:ts.length≤100) (hs:∀ x∈ws,x.length≤1000000) (w:World) (hg:Gd w) (slw:Value) (hw:Rep w (fun b=>∃ t∈ts,t.b=b) (strs ws) slw) (a:Option Addr) (c:Nat) (ho:Outs w ts a) :
  Calls Tryz.prog 45 #[slw,.slice a ts.length c] w fun e w'=>if ws.length=ts.length then e=.returned (.bool (scanW ws ts w).2)∧Below w.heap.size (scanW ws ts w).1 w' else e=.returned (.bool false)∧Below w.heap.size w w':=by
 obtain ⟨aw,cw,rfl,hcw⟩:=rep_words hw
 by_cases hlen:ws.length=ts.length
 case neg =>
  simp only [if_neg hlen]
  have hn:((ws.length:Int) != (ts.length:Int))=true:=bne_iff_ne.2 (by omega)
  go_enter Tryz.func45,Tryz.ntmps45
  go_wp2
  go_ret
  exact ⟨rfl,Below.refl _ _⟩
 simp only [if_pos hlen]
 have hn:((ts.length:Int) != (ts.length:Int))=false:=bne_eq_false_iff_eq.2 rfl
 rw [hlen]
 go_enter Tryz.func45,Tryz.ntmps45
 go_wp2
 go_loopw [23] (fun i wr=>∃ (k:Nat) (Wk:World),k≤ts.length∧i=.int .i64 k∧scanW ws ts w=scanW (ws.drop k) (ts.drop k) Wk∧Below w.heap.size Wk wr∧Wk.heap.size=w.heap.size∧(∀ b,(∀ t∈ts,t.b≠b)→Wk.heap[b]? = w.heap[b]?)∧∀ t∈ts,t.ok Wk) (fun i _=>ts.length-(intOf i).toNat)
 case atStart=>exact ⟨0,w,Nat.zero_le _,rfl,rfl,Below.refl _ _,rfl,fun _ _=>rfl,ho.ok⟩
 case round =>
  obtain ⟨k,Wk,hk,rfl,hsc,hB,hWs,hkp,hok⟩:=hrel
  obtain ⟨wo,hwo⟩:∃ wo,wo=wr:=⟨_,rfl⟩
  subst hwo
  have hsz:w.heap.size≤wo.heap.size:=by have:=hB.size;omega
  have hoff:∀ b,b<w.heap.size→(∀ t∈ts,t.b≠b)→wo.heap[b]? = w.heap[b]? := fun b hb hn=>(hB.block b hb).trans (hkp b hn)
  have hgW:Gd wo:=gd_keep hsz (fun b hb=>hoff b (Nat.lt_of_lt_of_le hb (gd_size hg)) fun t ht e=>by have:=ho.gl t ht;omega) hg
  rcases Nat.lt_or_ge k ts.length with hlt'|hge
  ·have hkw:k<ws.length:=by omega
   obtain ⟨bw,ow,ha1,hb1,hM1,hc1⟩:=hcw k hkw
   obtain ⟨bo,oo,ha2,hb2,hM2,hc2⟩:=ho.at_ k hlt'
   subst ha1
   subst ha2
   have hcw1:wo.cell? ⟨bw,ow+k,none⟩=some (bstr ws[k]):=(World.cell?_of_block (w:=w) (a:=⟨bw,ow+k,none⟩) (hoff bw hb1 fun t ht e=>hM1 ⟨t,ht,e⟩)).trans hc1
   have hco1:wo.cell? ⟨bo,oo+k,none⟩=some ts[k].v:=(World.cell?_of_block (w:=w) (a:=⟨bo,oo+k,none⟩) (hoff bo hb2 hM2)).trans hc2
   have hmem:=List.getElem_mem hlt'
   have hok1:=hok _ hmem
   have hgl1:=ho.gl _ hmem
   have hlt1:=ho.lt _ hmem
   have hx:=hs _ (List.getElem_mem hkw)
   rw [List.drop_eq_getElem_cons hkw,List.drop_eq_getElem_cons hlt',scanW] at hsc
   have hset:∀ (a:Addr) (v:Value),(∃ t∈ts,t.b=a.block)→(∀ b,(∀ t∈ts,t.b≠b)→(Wk.setCell a v).heap[b]? = w.heap[b]?)∧∀ t∈ts,t.ok (Wk.setCell a v):=fun a v ⟨t,ht,e⟩=>⟨fun b hb=>(Below.heap_setCell Wk a v b (fun e'=>hb t ht (e.trans e'.symm))).trans (hkp b hb),fun t ht=>Tg.ok_set (hok t ht) a v⟩
   have hset2:∀ (a:Addr) (v:Value) (a':Addr) (v':Value),(∃ t∈ts,t.b=a.block)→(∃ t∈ts,t.b=a'.block)→(∀ b,(∀ t∈ts,t.b≠b)→((Wk.setCell a v).setCell a' v').heap[b]? = w.heap[b]?)∧∀ t∈ts,t.ok ((Wk.setCell a v).setCell a' v'):=fun a v a' v' h1 ⟨t,ht,e⟩=>⟨fun b hb=>(Below.heap_setCell _ a' v' b (fun e'=>hb t ht (e.trans e'.symm))).trans ((hset a v h1).1 b hb),fun t ht=>Tg.ok_set ((hset a v h1).2 t ht) a' v'⟩
   have hmb:∃ t∈ts,t.b=ts[k].b:=⟨_,hmem,rfl⟩
   clear hcw hc1 hc2 hs hM1 hM2
   generalize ts[k]=t at *
   generalize ws[k]=x at *
   cases t with
   | i b o =>
    have hco:wo.cell? ⟨bo,oo+k,none⟩=some (.iface 136 (.pointer (some ⟨b,o,none⟩))):=hco1
    have hb:b<w.heap.size:=hlt1
    have hcel:Cel Wk b o:=hok1
    have hmb':∃ t∈ts,t.b=b:=hmb
    clear hco1 hlt1 hok1 hmb
    have ty:=fun w=>ta_yes Tryz.underlying136 (fun _ h=>by cases h) (.pointer (some ⟨b,o,none⟩)) 20 w
    cases hv:atoV x with
    | none =>
     have hI:=atoi_no hx hv hgW
     have hsc':scanW ws ts w=(Wk,false):=by rw [hsc];simp only [Tg.put,hv,Option.map_none]
     go_wp2_with (go_at_call 85;(with_reducible refine Calls.mono hI ?_);rintro e W1 ⟨n,N,rfl,B1⟩)
     go_ret
     rw [hsc']
     exact ⟨rfl,hB.trans (B1.mono hsz)⟩
    | some v =>
     have hI:=atoi_yes hx hv wo
     have hsc':scanW ws ts w=scanW (ws.drop (k+1)) (ts.drop (k+1)) (Wk.setCell ⟨b,o,none⟩ (.int .i64 v)):=by rw [hsc];simp only [Tg.put,hv,Option.map_some]
     obtain ⟨⟨u,hu⟩,hf⟩:=cel_of hcel (hB.block b hb)
     have kp:∀ {W':World},Below wo.heap.size wo W'→W'.cell? ⟨b,o,none⟩=some u∧W'.frozen? ⟨b,o,none⟩=false:=fun hb'=>⟨(World.cell?_of_block (w:=wo) (a:=⟨b,o,none⟩) (hb'.block b (by omega))).trans hu,(World.frozen?_of_block (w:=wo) (a:=⟨b,o,none⟩) (hb'.block b (by omega))).trans hf⟩
     clear hsc
     go_wp2_with (first
      | (go_at_call 85;(with_reducible refine Calls.mono hI ?_);rintro e W1 ⟨rfl,B1⟩;have g0:=(kp B1).1;have g1:=(kp B1).2)
      | (rw [Oper.semAt_eq _ _ _ (fun c h=>by cases h)];go_simp;try go_bits))
     go_roundw
     case rel =>
      refine ⟨k+1,Wk.setCell ⟨b,o,none⟩ (.int .i64 v),hlt',by go_num,hsc',below_set (hB.trans (B1.mono hsz)) _ _,(size_set _ _ _).trans hWs,(hset _ _ hmb').1,(hset _ _ hmb').2⟩
     case measure=>simp [intOf];omega
   | l b o =>
    have hco:wo.cell? ⟨bo,oo+k,none⟩=some (.iface 145 (.pointer (some ⟨b,o,none⟩))):=hco1
    have hb:b<w.heap.size:=hlt1
    have hcel:Cel Wk b o:=hok1
    have hmb':∃ t∈ts,t.b=b:=hmb
    clear hco1 hlt1 hok1 hmb
    have t0:=fun w=>ta_no Tryz.underlying136 (fun _ h=>by cases h) Tryz.zeroValue136 (show (145:TypeId)≠136 by decide) (.pointer (some ⟨b,o,none⟩)) 20 w
    have ty:=fun w=>ta_yes Tryz.underlying145 (fun _ h=>by cases h) (.pointer (some ⟨b,o,none⟩)) 20 w
    cases hv:atoV x with
    | none =>
     have hI:=parse_no hx hv hgW
     have hsc':scanW ws ts w=(Wk,false):=by rw [hsc];simp only [Tg.put,hv,Option.map_none]
     go_wp2_with (go_at_call 86;(with_reducible refine Calls.mono hI ?_);rintro e W1 ⟨n,N,rfl,B1⟩)
     go_ret
     rw [hsc']
     exact ⟨rfl,hB.trans (B1.mono hsz)⟩
    | some v =>
     have hI:=parse_yes hx hv wo
     have hsc':scanW ws ts w=scanW (ws.drop (k+1)) (ts.drop (k+1)) (Wk.setCell ⟨b,o,none⟩ (.int .i64 v)):=by rw [hsc];simp only [Tg.put,hv,Option.map_some]
     obtain ⟨⟨u,hu⟩,hf⟩:=cel_of hcel (hB.block b hb)
     have kp:∀ {W':World},Below wo.heap.size wo W'→W'.cell? ⟨b,o,none⟩=some u∧W'.frozen? ⟨b,o,none⟩=false:=fun hb'=>⟨(World.cell?_of_block (w:=wo) (a:=⟨b,o,none⟩) (hb'.block b (by omega))).trans hu,(World.frozen?_of_block (w:=wo) (a:=⟨b,o,none⟩) (hb'.block b (by omega))).trans hf⟩
     clear hsc
     go_wp2_with (first
      | (go_at_call 86;(with_reducible refine Calls.mono hI ?_);rintro e W1 ⟨rfl,B1⟩;have g0:=(kp B1).1;have g1:=(kp B1).2)
      | (rw [Oper.semAt_eq _ _ _ (fun c h=>by cases h)];go_simp;try go_bits))
     go_roundw
     case rel =>
      refine ⟨k+1,Wk.setCell ⟨b,o,none⟩ (.int .i64 v),hlt',by go_num,hsc',below_set (hB.trans (B1.mono hsz)) _ _,(size_set _ _ _).trans hWs,(hset _ _ hmb').1,(hset _ _ hmb').2⟩
     case measure=>simp [intOf];omega
   | r b o =>
    have hco:wo.cell? ⟨bo,oo+k,none⟩=some (.iface 93 (.pointer (some ⟨b,o,none⟩))):=hco1
    have hb:b<w.heap.size:=hlt1
    have hcel:Cel Wk b o∧Cel Wk b (o+1):=hok1
    have hmb':∃ t∈ts,t.b=b:=hmb
    clear hco1 hlt1 hok1 hmb
    have t0:=fun w=>ta_no Tryz.underlying136 (fun _ h=>by cases h) Tryz.zeroValue136 (show (93:TypeId)≠136 by decide) (.pointer (some ⟨b,o,none⟩)) 20 w
    have t1:=fun w=>ta_no Tryz.underlying145 (fun _ h=>by cases h) Tryz.zeroValue145 (show (93:TypeId)≠145 by decide) (.pointer (some ⟨b,o,none⟩)) 20 w
    have ty:=fun w=>ta_yes Tryz.underlying93 (fun _ h=>by cases h) (.pointer (some ⟨b,o,none⟩)) 20 w
    have hI:=(fn_call (vs:=[bstr x]) (fun _ _=>Tryz.call87 _ _) rfl (cReadNumber_fn x hx) hgW ⟨.v _ rfl trivial,trivial⟩)
    have hfr:frV x=if (readV x).2=0 then some (readV x).1 else none:=rfl
    generalize readV x=q at *
    obtain ⟨⟨qn,qd⟩,qe⟩:=q
    simp only at hI hfr
    by_cases hq:qe=0
    ·subst hq
     rw [if_pos rfl] at hfr
     have hsc':scanW ws ts w=scanW (ws.drop (k+1)) (ts.drop (k+1)) ((Wk.setCell ⟨b,o,none⟩ (.int .i64 qn)).setCell ⟨b,o+1,none⟩ (.int .i64 qd)):=by rw [hsc];simp only [Tg.put,hfr,Option.map_some]
     obtain ⟨⟨u,hu⟩,hf⟩:=cel_of hcel.1 (hB.block b hb)
     obtain ⟨⟨u',hu'⟩,hf'⟩:=cel_of hcel.2 (hB.block b hb)
     have kp:∀ {W':World},Below wo.heap.size wo W'→W'.cell? ⟨b,o,none⟩=some u∧W'.frozen? ⟨b,o,none⟩=false∧W'.cell? ⟨b,o+1,none⟩=some u'∧W'.frozen? ⟨b,o+1,none⟩=false:=fun hb'=>⟨(World.cell?_of_block (w:=wo) (a:=⟨b,o,none⟩) (hb'.block b (by omega))).trans hu,(World.frozen?_of_block (w:=wo) (a:=⟨b,o,none⟩) (hb'.block b (by omega))).trans hf,(World.cell?_of_block (w:=wo) (a:=⟨b,o+1,none⟩) (hb'.block b (by omega))).trans hu',(World.frozen?_of_block (w:=wo) (a:=⟨b,o+1,none⟩) (hb'.block b (by omega))).trans hf'⟩
     clear hsc hfr
     go_wp2_with (first
      | (go_at_call 87;(with_reducible refine Calls.mono hI ?_);rintro e W1 ⟨rfl,B1⟩;have B2:Below wo.heap.size wo (W1.alloc (.cells #[.int .i64 qn,.int .i64 qd] 25)):=B1.alloc B1.size _;obtain ⟨g0,g1,g2,g3⟩:=kp B2)
      | (rw [Oper.semAt_eq _ _ _ (fun c h=>by cases h)];go_simp;try go_bits))
     go_roundw
     case rel =>
      refine ⟨k+1,(Wk.setCell ⟨b,o,none⟩ (.int .i64 qn)).setCell ⟨b,o+1,none⟩ (.int .i64 qd),hlt',by go_num,hsc',below_set (below_set (hB.trans (B2.mono hsz)) _ _) _ _,(size_set _ _ _).trans ((size_set _ _ _).trans hWs),(hset2 _ _ _ _ hmb' hmb').1,(hset2 _ _ _ _ hmb' hmb').2⟩
     case measure=>simp [intOf];omega
    ·rw [if_neg hq] at hfr
     have hsc':scanW ws ts w=(Wk,false):=by rw [hsc];simp only [Tg.put,hfr,Option.map_none]
     have hqb:(qe != 0)=true:=bne_iff_ne.2 hq
     clear hsc hfr
     go_wp2_with (go_at_call 87;(with_reducible refine Calls.mono hI ?_);rintro e W1 ⟨rfl,B1⟩)
     go_ret
     rw [hsc']
     exact ⟨rfl,hB.trans ((B1.alloc B1.size _).mono hsz)⟩
  ·obtain rfl:k=ts.length:=by omega
   have hd1:ws.drop ts.length=[]:=by rw [← hlen,List.drop_length]
   have hsc':scanW ws ts w=(Wk,true):=by rw [hsc,hd1];simp [scanW]
   go_wp2
   go_ret
   rw [hsc']
   exact ⟨rfl,hB⟩
end Go.Proofs.YtfkfficabeclcaaGreatDoor

namespace Go.Proofs.YtfkfficabeclcaaGreatDoor
open Go Go.RowKit Go.Sort Sx
open Go.Lib hiding intOf
def chk3 (b o len k:Nat):Value:=.slice (some ⟨b,o+3*k,none⟩) (min 3 (len-3*k)) (min 3 (len-3*k))
set_option maxRecDepth 100000 in
set_option maxHeartbeats 4000000 in
theorem chunk_ends (a:Option Addr) (b o len c B1 B2 n:Nat) (w:World) (ha:len≠0→a=some ⟨b,o,none⟩) (h1:Boxed w B1 63 (.slice a len c)) (h2:Boxed w B2 3 (.int .i64 3)) (hlc:len≤c) (hlen:len≤1000000) (hn:1≤n) :
  SeqEnds n Tryz.prog 132 #[.pointer (some ⟨B1,0,none⟩),.pointer (some ⟨B2,0,none⟩)] (fun k:Nat=>#[chk3 b o len k]) (fun x=>x=B1∨x=B2) (List.range ((len+2) / 3)) w:=fun lp J Jx W hsz hbs hJ hY h0=>by
 have hb1:Boxed W B1 63 (.slice a len c):=(hbs B1 (.inl rfl)).trans h1
 have hb2:Boxed W B2 3 (.int .i64 3):=(hbs B2 (.inr rfl)).trans h2
 refine callsIn_of_wp Tryz.func132 rfl trivial ?_ rfl
 simp only [Tryz.ntmps132,List.size_toArray,List.length_cons,List.length_nil,Nat.reduceAdd,Nat.reduceSub,Array.replicate_succ,Array.replicate_zero,List.push_toArray,List.append_toArray,List.nil_append,List.cons_append]
 gi_wp2
 gi_loopw [4] (fun x W'=>∃ k:Nat,x=.int .i64 ((3*k:Nat):Int)∧3*k≤len+2∧J (List.range k) W'∧Boxed W' B1 63 (.slice a len c)∧Boxed W' B2 3 (.int .i64 3)) (fun x _=>len+3-(intOf x).toNat)
 case atStart=>exact ⟨0,rfl,by omega,h0,hb1,hb2⟩
 case round =>
  obtain ⟨k,rfl,hk,hJk,hx1,hx2⟩:=hrel
  have c1:=hx1.cell
  have f1:=hx1.frozen
  have c2:=hx2.cell
  have f2:=hx2.frozen
  rcases Nat.lt_or_ge (3*k) len with hlt|hge
  ·have ht:decide (((3*k:Nat):Int)<(len:Int))=true:=decide_eq_true (by omega)
   have ha2:=ha (by omega)
   subst ha2
   have hrg:List.range k++k::(List.range ((len+2) / 3)).drop (k+1)=List.range ((len+2) / 3):=by
    have hkN:k<(len+2) / 3:=by omega
    conv=>rhs;rw [← List.take_append_drop k (List.range ((len+2) / 3)),List.drop_eq_getElem_cons (by simpa using hkN)]
    rw [List.take_range,Nat.min_eq_left (by omega),List.getElem_range]
   gi_wp2
   gi_region
   obtain ⟨m,hm⟩:∃ m,m=min 3 (len-3*k):=⟨_,rfl⟩
   have hm1:1≤m:=by omega
   have hm2:3*k+m≤len:=by omega
   have hm3:3*k+m≤c:=by omega
   have hmw:IntKind.i64.wrap (3*(k:Int)+(m:Int))=((3*k+m:Nat):Int):=by rw [IntWalk.i64_in _ (by omega)];omega
   have hm3w:IntKind.i64.wrap (3*(k:Int)+3)=((3*(k+1):Nat):Int):=by rw [IntWalk.i64_in _ (by omega)];omega
   obtain ⟨W2,hW2⟩:∃ W2,W2=wr.drew:=⟨_,rfl⟩
   have hJ2:J (List.range k) W2:=by rw [hW2];exact hJ _ _ _ none hJk (grownBy_drew _) (fun r e=>by cases e)
   have hy1:Boxed W2 B1 63 (.slice (some ⟨b,o,none⟩) len c):=by rw [hW2];exact hx1
   have hy2:Boxed W2 B2 3 (.int .i64 3):=by rw [hW2];exact hx2
   have d1:=hy1.cell
   have d2:=hy2.cell
   obtain ⟨fn,tmps,assign,body,hy,hR⟩:=hY (List.range k) k _ W2 hrg hJ2
   have hck:chk3 b o len k=.slice (some ⟨b,o+3*k,none⟩) m m:=by unfold chk3;rw [← hm]
   rw [hck] at hy
   try rw [show min (3:Int) ((len-3*k:Nat):Int)=(m:Int) by omega]
   try rw [← hm]
   rw [← hW2]
   clear hW2 c1 f1 c2 f2 hm hck
   gi_wp2
   refine hR.mono ?_
   rintro e W3 (⟨rfl,hJ5,hs5,hk5⟩|⟨rfl,hx5⟩)
   ·have hz1:Boxed W3 B1 63 (.slice (some ⟨b,o,none⟩) len c):=(hk5 B1 (.inl rfl)).trans hy1
    have hz2:Boxed W3 B2 3 (.int .i64 3):=(hk5 B2 (.inr rfl)).trans hy2
    have e2:=hz2.cell
    clear hR
    gi_wp2
    go_roundw
    case rel=>exact ⟨k+1,by go_num,by omega,by rw [List.range_succ];exact hJ5,hz1,hz2⟩
    case measure=>simp [intOf];omega
   ·gi_wp2
    refine bodyPost_ret (results_none rfl _ _ _) rfl ?_
    exact ⟨⟨_,rfl⟩,.inr hx5⟩
  ·have ht:decide (((3*k:Nat):Int)<(len:Int))=false:=decide_eq_false (by omega)
   gi_wp2
   go_end0
   refine ⟨⟨_,rfl⟩,.inl ?_⟩
   have:k=(len+2) / 3:=by omega
   rw [← this];exact hJk
end Go.Proofs.YtfkfficabeclcaaGreatDoor

namespace Go.Proofs.YtfkfficabeclcaaGreatDoor
open Go Go.RowKit Go.Sort Sx
open Go.Lib hiding intOf
theorem scanW_keep:∀ (ws:List Str) (ts:List Tg) (W:World),(scanW ws ts W).1.heap.size=W.heap.size∧(∀ k,(∀ t∈ts,t.b≠k)→(scanW ws ts W).1.heap[k]? = W.heap[k]?)∧∀ n,(∀ t∈ts,n≤t.b)→Below n W (scanW ws ts W).1
 | [],_,W=>⟨rfl,fun _ _=>rfl,fun _ _=>Below.refl _ _⟩
 | _::_,[],W=>⟨rfl,fun _ _=>rfl,fun _ _=>Below.refl _ _⟩
 | s::ws,t::ts,W=>by
  rw [scanW]
  have hput:∀ W',t.put s W=some W'→W'.heap.size=W.heap.size∧(∀ k,t.b≠k→W'.heap[k]? = W.heap[k]?)∧∀ n,n≤t.b→Below n W W':=by
   intro W' h
   cases t with
   | i b o =>
    obtain ⟨v,_,rfl⟩:=Option.map_eq_some_iff.1 h
    exact ⟨size_set _ _ _,fun k hk=>setCell_other fun e=>hk e.symm,fun n hn=>(Below.refl _ _).setCell hn _⟩
   | l b o =>
    obtain ⟨v,_,rfl⟩:=Option.map_eq_some_iff.1 h
    exact ⟨size_set _ _ _,fun k hk=>setCell_other fun e=>hk e.symm,fun n hn=>(Below.refl _ _).setCell hn _⟩
   | r b o =>
    obtain ⟨v,_,rfl⟩:=Option.map_eq_some_iff.1 h
    exact ⟨(size_set _ _ _).trans (size_set _ _ _),fun k hk=>(setCell_other fun e=>hk e.symm).trans (setCell_other fun e=>hk e.symm),fun n hn=>((Below.refl _ _).setCell hn _).setCell hn _⟩
  cases h:t.put s W with
  | none=>exact ⟨rfl,fun _ _=>rfl,fun _ _=>Below.refl _ _⟩
  | some W' =>
   obtain ⟨a1,a2,a3⟩:=hput W' h
   obtain ⟨b1,b2,b3⟩:=scanW_keep ws ts W'
   exact ⟨b1.trans a1,fun k hk=>(b2 k fun t ht=>hk t (List.mem_cons_of_mem _ ht)).trans (a2 k (hk t (List.mem_cons_self ..))),fun n hn=>(a3 n (hn t (List.mem_cons_self ..))).trans (b3 n fun t ht=>hn t (List.mem_cons_of_mem _ ht))⟩
theorem scan_one {t:List Str} {ts:List Tg} {R n:Nat} {T:TypeId} {cs X:Array Value} {b:Bool} (hn:ts≠[]) (hts:∀ x∈ts,x.b=R) (hl:t.length≤1000000) (hlt:ts.length≤100) (hs:∀ x∈t,x.length≤1000000) {W:World} (hg:Gd W) (hR:W.heap[R]? = some (.cells cs T (0,0))) (hok:∀ x∈ts,x.ok W) (hgl:gl≤R) (hnR:n≤R)
  {v:Value} (hv:Rep W (fun b=>b=R) (strs t) v)
  (hX:t.length=ts.length→∀ W',W'.heap[R]? = some (.cells cs T (0,0))→(scanW t ts W').2=b∧(scanW t ts W').1.heap[R]? = some (.cells X T (0,0))) (hX':t.length≠ts.length→b=false∧X=cs) :
  Calls Tryz.prog 45 #[v,.slice (some ⟨W.heap.size,0,none⟩) ts.length ts.length] (W.alloc (.cells (ts.map Tg.v).toArray 20)) fun e w'=>e=.returned (.bool b)∧w'.heap[R]? = some (.cells X T (0,0))∧(∀ k,k<W.heap.size→k≠R→w'.heap[k]? = W.heap[k]?)∧Below n W w':=by
 have hRl:=(Array.getElem?_eq_some_iff.1 hR).1
 obtain ⟨W2,hW2⟩:∃ W2,W2=W.alloc (.cells (ts.map Tg.v).toArray 20):=⟨_,rfl⟩
 have hnew:W2.heap[W.heap.size]? = some (.cells (ts.map Tg.v).toArray 20 (0,0)):=by rw [hW2];exact World.alloc_heap_new W _
 have hB:Below W.heap.size W W2:=by rw [hW2];exact (Below.refl _ _).alloc (Nat.le_refl _) _
 have hs2:W2.heap.size=W.heap.size+1:=by rw [hW2];simp
 rw [← hW2]
 clear hW2
 have hout:Outs W2 ts (some ⟨W.heap.size,0,none⟩):=by
  refine ⟨fun i hi=>⟨_,_,rfl,by omega,fun t ht=>by rw [hts t ht];omega,?_⟩,fun t ht=>by rw [hts t ht];exact hgl,fun t ht=>by rw [hts t ht];omega,fun t ht => ?_⟩
  ·simp only [World.cell?,hnew]
   simp [hi]
  ·have:=hok t ht
   have hb:=hB.block R hRl
   rw [← hts t ht] at hb
   cases t with
   | i b o=>exact cel_of this hb
   | l b o=>exact cel_of this hb
   | r b o=>exact ⟨cel_of this.1 hb,cel_of this.2 hb⟩
 have hv2:Rep W2 (fun b=>∃ t∈ts,t.b=b) (strs t) v:=hv.mono (Holds.of_below hB) fun b _ ⟨t,ht,e⟩=>by rw [← e];exact hts t ht
 refine (scan_any t ts hl hlt hs W2 (gd_below hB hg) v hv2 _ ts.length hout).mono ?_
 intro e w' h
 obtain ⟨k1,k2,k3⟩:=scanW_keep t ts W2
 have hR2:W2.heap[R]? = some (.cells cs T (0,0)):=(hB.block R hRl).trans hR
 by_cases hlen:t.length=ts.length
 ·rw [if_pos hlen] at h
  obtain ⟨rfl,h2⟩:=h
  obtain ⟨x1,x2⟩:=hX hlen W2 hR2
  refine ⟨by rw [x1],(h2.block R (by omega)).trans x2,fun k hk hkR=>(h2.block k (by omega)).trans ((k2 k fun t ht=>by rw [hts t ht];exact fun e=>hkR e.symm).trans (hB.block k hk)),?_⟩
  exact ((hB.mono (by omega)).trans (k3 n fun t ht=>by rw [hts t ht];exact hnR)).trans (h2.mono (by omega))
 ·rw [if_neg hlen] at h
  obtain ⟨rfl,h2⟩:=h
  obtain ⟨rfl,rfl⟩:=hX' hlen
  exact ⟨rfl,(h2.block R (by omega)).trans hR2,fun k hk hkR=>(h2.block k (by omega)).trans (hB.block k hk),(hB.mono (by omega)).trans (h2.mono (by omega))⟩
theorem chunk_in {n:Nat} (a:Option Addr) (l c:Nat) (w:World):CallsIn Fence.wide n Tryz.prog 83 #[.slice a l c,.int .i64 3] w fun e w'=>e=.returned (.func (.func 132) #[] #[.pointer (some ⟨w.heap.size,0,none⟩),.pointer (some ⟨w.heap.size+1,0,none⟩)])∧w'=(w.alloc (.cells #[.slice a l c] 63)).alloc (.cells #[.int .i64 3] 3):=by
 refine callsIn_of_wp Tryz.func83 rfl trivial ?_ rfl
 simp only [Tryz.ntmps83,List.size_toArray,List.length_cons,List.length_nil,Nat.reduceAdd,Nat.reduceSub,Array.replicate_succ,Array.replicate_zero,List.push_toArray,List.append_toArray,List.nil_append,List.cons_append]
 gi_wp2
 first|go_ret|refine bodyPost_ret (results_tmp rfl _ _ _) rfl ?_|refine bodyPost_end (results_tmp rfl _ _ _) rfl ?_
 exact ⟨rfl,rfl⟩
end Go.Proofs.YtfkfficabeclcaaGreatDoor

namespace Go.Proofs.YtfkfficabeclcaaGreatDoor
open Go Go.RowKit Go.Sort Sx
open Go.Lib hiding intOf
def rpC (r:Rp) (ms:Value):Array Value:=#[.int .i64 r.e,.int .i64 r.i,.int .i64 r.j,.int .i64 r.n,.int .i64 r.d,ms]
theorem cells6 {W:World} {b:Nat} {u v x y z m:Value} {T:TypeId} (h:W.heap[b]? = some (.cells #[u,v,x,y,z,m] T (0,0))) :
  (W.cell? ⟨b,0,none⟩=some u∧W.cell? ⟨b,1,none⟩=some v∧W.cell? ⟨b,2,none⟩=some x∧W.cell? ⟨b,3,none⟩=some y∧W.cell? ⟨b,4,none⟩=some z∧W.cell? ⟨b,5,none⟩=some m)∧∀ o,W.frozen? ⟨b,o,none⟩=false:=by
 refine ⟨⟨?_,?_,?_,?_,?_,?_⟩,fun o => ?_⟩<;>simp [World.cell?,World.frozen?,h]
theorem set6 {W:World} {b:Nat} {cs:Array Value} {T:TypeId} (i:Nat) (v:Value) (h:W.heap[b]? = some (.cells cs T (0,0))):(W.setCell ⟨b,i,none⟩ v).heap[b]? = some (.cells (cs.setIfInBounds i v) T (0,0)):=by
 obtain ⟨hlt,hk⟩:=Array.getElem?_eq_some_iff.1 h
 show (W.heap.modify b _)[b]? = _
 rw [Array.getElem?_eq_getElem (by rw [Array.size_modify];exact hlt),Array.getElem_modify_self,hk]
 rfl
theorem results_read {R K:Nat} {W:World} {u v x y z m e:Value} (tmps:Array Value) (h2:tmps[2]? = some (.pointer (some ⟨R,0,none⟩))) (h3:tmps[3]? = some (.pointer (some ⟨K,0,none⟩))) (h6:W.heap[R]? = some (.cells #[u,v,x,y,z,m] 28 (0,0))) (h7:Boxed W K 4 e):(results Tryz.f43 tmps).run Tryz.prog W=.ok (.tuple #[.agg #[u,v,x,y,z,m],e]) W:=by
 obtain ⟨⟨a0,a1,a2,a3,a4,a5⟩,_⟩:=cells6 h6
 have e0:=h7.cell
 have hr:Tryz.f43.results=#[.cell 2 28,.cell 3 4]:=rfl
 simp only [results,hr]
 simp [h2,h3]
 go_simp
def ldX:List Str→Rp × Bool
 | [a,b]=>match atoV a with
  | none=>(rp0,false)
  | some i=>match frV b with
   | none=>(⟨0,i,0,0,0,[]⟩,false)
   | some q=>(⟨0,i,0,q.1,q.2,[]⟩,true)
 | _=>(rp0,false)
theorem ldX_is (t:List Str):rdWP wLeader t=if (ldX t).2=true then some (ldX t).1 else none:=by
 unfold rdWP ldX
 rw [if_neg (by decide),if_neg (by decide),if_pos rfl]
 match t with
 | [a,b] =>
  rcases h1:atoV a with _|i
  ·simp [h1]
  ·rcases h2:frV b with _|q<;>simp [h1,h2]
 | []=>rfl
 | [_]=>rfl
 | _::_::_::_=>rfl
theorem ldX_sc {R:Nat}:∀ {t:List Str},t.length=2→∀ W:World,W.heap[R]? = some (.cells (rpC rp0 (.slice none 0 0)) 28 (0,0))→(scanW t [.i R 1,.r R 3] W).2=(ldX t).2∧(scanW t [.i R 1,.r R 3] W).1.heap[R]? = some (.cells (rpC (ldX t).1 (.slice none 0 0)) 28 (0,0))
 | [a,b],_,W,h=>by
  unfold scanW ldX
  simp only [Tg.put]
  cases atoV a with
  | none=>exact ⟨rfl,h⟩
  | some i =>
   simp only [Option.map_some]
   unfold scanW
   simp only [Tg.put]
   have h1:=set6 1 (.int .i64 i) h
   cases frV b with
   | none=>exact ⟨rfl,h1⟩
   | some q =>
    simp only [Option.map_some]
    unfold scanW
    exact ⟨rfl,set6 4 (.int .i64 q.2) (set6 3 (.int .i64 q.1) h1)⟩
 | [],h,_,_=>by cases h
 | [_],h,_,_=>by cases h
 | _::_::_::_,h,_,_=>by simp at h
theorem ldX_no {t:List Str} (h:t.length≠2):ldX t=(rp0,false):=by
 match t,h with
 | [a,b],h=>exact absurd rfl h
 | [],_=>rfl
 | [_],_=>rfl
 | _::_::_::_,_=>rfl
def rdW (w:World):World:=(w.alloc (.cells (rpC rp0 (.slice none 0 0)) 28)).alloc (.cells #[.bool false] 4)
theorem rdW_ok (w:World):(rdW w).heap.size=w.heap.size+2∧(rdW w).heap[w.heap.size]? = some (.cells (rpC rp0 (.slice none 0 0)) 28 (0,0))∧(rdW w).heap[w.heap.size+1]? = some (.cells #[.bool false] 4 (0,0))∧Below w.heap.size w (rdW w):=by
 unfold rdW
 refine ⟨by simp,?_,?_,((Below.refl _ _).alloc (Nat.le_refl _) _).alloc (by simp) _⟩
 ·rw [Below.heap_alloc _ _ _ (by simp)];exact World.alloc_heap_new w _
 ·have:=World.alloc_heap_new (w.alloc (.cells (rpC rp0 (.slice none 0 0)) 28)) (.cells #[.bool false] 4)
  rwa [World.size_alloc] at this
theorem cel6 {W:World} {b o:Nat} {cs:Array Value} {T:TypeId} (h:W.heap[b]? = some (.cells cs T (0,0))) (ho:o<cs.size):Cel W b o:=by
 refine ⟨⟨cs[o],?_⟩,?_⟩<;>simp [World.cell?,World.frozen?,h,ho]
def prX:List Str→Rp × Bool
 | [a,b,c]=>match atoV a with
  | none=>(rp0,false)
  | some i=>match atoV b with
   | none=>(⟨0,i,0,0,0,[]⟩,false)
   | some j=>match frV c with
    | none=>(⟨0,i,j,0,0,[]⟩,false)
    | some q=>(⟨0,i,j,q.1,q.2,[]⟩,true)
 | _=>(rp0,false)
theorem prX_is (t:List Str):rdWP wPair t=if (prX t).2=true then some (prX t).1 else none:=by
 unfold rdWP prX
 rw [if_neg (by decide),if_neg (by decide),if_neg (by decide),if_pos rfl]
 match t with
 | [a,b,c] =>
  rcases h1:atoV a with _|i
  ·simp [h1]
  ·rcases h2:atoV b with _|j
   ·simp [h1,h2]
   ·rcases h3:frV c with _|q<;>simp [h1,h2,h3]
 | []=>rfl
 | [_]=>rfl
 | [_,_]=>rfl
 | _::_::_::_::_=>rfl
theorem prX_sc {R:Nat}:∀ {t:List Str},t.length=3→∀ W:World,W.heap[R]? = some (.cells (rpC rp0 (.slice none 0 0)) 28 (0,0))→(scanW t [.i R 1,.i R 2,.r R 3] W).2=(prX t).2∧(scanW t [.i R 1,.i R 2,.r R 3] W).1.heap[R]? = some (.cells (rpC (prX t).1 (.slice none 0 0)) 28 (0,0))
 | [a,b,c],_,W,h=>by
  unfold scanW prX
  simp only [Tg.put]
  cases atoV a with
  | none=>exact ⟨rfl,h⟩
  | some i =>
   simp only [Option.map_some]
   unfold scanW
   simp only [Tg.put]
   have h1:=set6 1 (.int .i64 i) h
   cases atoV b with
   | none=>exact ⟨rfl,h1⟩
   | some j =>
    simp only [Option.map_some]
    unfold scanW
    simp only [Tg.put]
    have h2:=set6 2 (.int .i64 j) h1
    cases frV c with
    | none=>exact ⟨rfl,h2⟩
    | some q =>
     simp only [Option.map_some]
     unfold scanW
     exact ⟨rfl,set6 4 (.int .i64 q.2) (set6 3 (.int .i64 q.1) h2)⟩
 | [],h,_,_=>by cases h
 | [_],h,_,_=>by cases h
 | [_,_],h,_,_=>by cases h
 | _::_::_::_::_,h,_,_=>by simp at h
theorem prX_no {t:List Str} (h:t.length≠3):prX t=(rp0,false):=by
 match t,h with
 | [a,b,c],h=>exact absurd rfl h
 | [],_=>rfl
 | [_],_=>rfl
 | [_,_],_=>rfl
 | _::_::_::_::_,_=>rfl
def erX:List Str→Int × Bool
 | [a]=>match atoV a with
  | none=>(0,false)
  | some i=>(i,true)
 | _=>(0,false)
theorem erX_is (t:List Str):rdWP wErr t=if (erX t).2=true then some (rpE (erX t).1) else none:=by
 unfold rdWP erX
 rw [if_neg (by decide),if_pos rfl]
 match t with
 | [a]=>rcases h1:atoV a with _|i<;>simp [h1]
 | []=>rfl
 | _::_::_=>rfl
theorem erX_sc {R:Nat}:∀ {t:List Str},t.length=1→∀ W:World,W.heap[R]? = some (.cells #[.int .i64 0] 3 (0,0))→(scanW t [.i R 0] W).2=(erX t).2∧(scanW t [.i R 0] W).1.heap[R]? = some (.cells #[.int .i64 (erX t).1] 3 (0,0))
 | [a],_,W,h=>by
  unfold scanW erX
  simp only [Tg.put]
  cases atoV a with
  | none=>exact ⟨rfl,h⟩
  | some i =>
   simp only [Option.map_some]
   unfold scanW
   exact ⟨rfl,set6 0 (.int .i64 i) h⟩
 | [],h,_,_=>by cases h
 | _::_::_,h,_,_=>by simp at h
theorem erX_no {t:List Str} (h:t.length≠1):erX t=(0,false):=by
 match t,h with
 | [a],h=>exact absurd rfl h
 | [],_=>rfl
 | _::_::_,_=>rfl
theorem atoV_in {s:Str} {v:Int} (h:atoV s=some v):in64 v:=atoiAll_bounds (atoV_ok h)
theorem frV_in {s:Str} {q:Int × Int} (h:frV s=some q):in64 q.1∧in64 q.2:=⟨fit_in (frV_fit h).1,fit_in (frV_fit h).2⟩
def rpIn (r:Rp):Prop:=in64 r.e∧in64 r.i∧in64 r.j∧in64 r.n∧in64 r.d
theorem in0:in64 0:=⟨by decide,by decide⟩
theorem ldX_in (t:List Str):rpIn (ldX t).1:=by
 unfold ldX
 split
 ·rcases h1:atoV _ with _|i
  ·exact ⟨in0,in0,in0,in0,in0⟩
  ·rcases h2:frV _ with _|q
   ·exact ⟨in0,atoV_in h1,in0,in0,in0⟩
   ·exact ⟨in0,atoV_in h1,in0,(frV_in h2).1,(frV_in h2).2⟩
 ·exact ⟨in0,in0,in0,in0,in0⟩
theorem prX_in (t:List Str):rpIn (prX t).1:=by
 unfold prX
 split
 ·rcases h1:atoV _ with _|i
  ·exact ⟨in0,in0,in0,in0,in0⟩
  ·rcases h2:atoV _ with _|j
   ·exact ⟨in0,atoV_in h1,in0,in0,in0⟩
   ·rcases h3:frV _ with _|q
    ·exact ⟨in0,atoV_in h1,atoV_in h2,in0,in0⟩
    ·exact ⟨in0,atoV_in h1,atoV_in h2,(frV_in h3).1,(frV_in h3).2⟩
 ·exact ⟨in0,in0,in0,in0,in0⟩
theorem erX_in (t:List Str):in64 (erX t).1:=by
 unfold erX
 split
 ·rcases h1:atoV _ with _|i
  ·exact in0
  ·exact atoV_in h1
 ·exact in0
end Go.Proofs.YtfkfficabeclcaaGreatDoor

namespace Go.Proofs.YtfkfficabeclcaaGreatDoor
open Go Go.RowKit Go.Sort Sx
open Go.Lib hiding intOf
def setC:List (List Sx.D)→Nat→(List Sx.D→List Sx.D)→List (List Sx.D)
 | [],_,_=>[]
 | c::l,0,f=>f c::l
 | c::l,i+1,f=>c::setC l i f
def putD (s:Str) (t:TypeId × Nat × Nat) (cs:List (List Sx.D)):Option (List (List Sx.D)) :=
 if t.1=93 then (frV s).map fun q=>setC cs t.2.1 fun c=>(c.set t.2.2 (i64 q.1)).set (t.2.2+1) (i64 q.2)
 else (atoV s).map fun n=>setC cs t.2.1 fun c=>c.set t.2.2 (i64 n)
def scanD:List Str→List (TypeId × Nat × Nat)→List (List Sx.D)→List (List Sx.D) × Bool
 | s::ws,t::ts,cs=>match putD s t cs with
  | some cs'=>scanD ws ts cs'
  | none=>(cs,false)
 | _,_,cs=>(cs,true)
def tgOf (bs:List Nat) (t:TypeId × Nat × Nat):Tg:=if t.1=93 then .r (bs.getD t.2.1 0) t.2.2 else if t.1=145 then .l (bs.getD t.2.1 0) t.2.2 else .i (bs.getD t.2.1 0) t.2.2
def plOk (cs:List (List Sx.D)) (t:TypeId × Nat × Nat):Prop:=(t.1=93∨t.1=145∨t.1=136)∧∃ c,cs[t.2.1]? = some c∧t.2.2<c.length∧(t.1=93→t.2.2+1<c.length)
theorem setC_len:∀ (cs:List (List Sx.D)) (i:Nat) (f:List Sx.D→List Sx.D),(setC cs i f).length=cs.length
 | [],_,_=>rfl
 | c::l,0,f=>rfl
 | c::l,i+1,f=>by rw [setC,List.length_cons,setC_len l i f,List.length_cons]
theorem setC_get:∀ (cs:List (List Sx.D)) (i j:Nat) (f:List Sx.D→List Sx.D),(setC cs i f)[j]? = if j=i then (cs[j]?).map f else cs[j]?
 | [],i,j,f=>by simp [setC]
 | c::l,0,0,f=>rfl
 | c::l,0,j+1,f=>by simp [setC]
 | c::l,i+1,0,f=>by simp [setC]
 | c::l,i+1,j+1,f=>by simp [setC,setC_get l i j f]
theorem plOk_set {cs:List (List Sx.D)} {t:TypeId × Nat × Nat} {i:Nat} {f:List Sx.D→List Sx.D} (hf:∀ c,(f c).length=c.length) (h:plOk cs t):plOk (setC cs i f) t:=by
 obtain ⟨h1,c,h2,h3,h4⟩:=h
 refine ⟨h1,if t.2.1=i then f c else c,?_,?_,?_⟩
 ·rw [setC_get,h2]
  split<;>rfl
 ·split
  ·rw [hf];exact h3
  ·exact h3
 ·split
  ·rw [hf];exact h4
  ·exact h4
def HoldC (W:World) (M:Nat→Prop) (bs:List Nat) (cs:List (List Sx.D)):Prop:=∀ (i b:Nat) (ds:List Sx.D),bs[i]? = some b→cs[i]? = some ds→∃ us,CellsAt W b us∧DsR W M ds us
theorem dsR_set {W:World} {M:Nat→Prop}:∀ {ds:List Sx.D} {us:List Value} {o:Nat} {d:Sx.D} {v:Value},DsR W M ds us→Rep W M d v→DsR W M (ds.set o d) (us.set o v)
 | [],[],_,_,_,h,_=>h
 | x::ds,u::us,0,d,v,h,k=>⟨k,h.2⟩
 | x::ds,u::us,o+1,d,v,h,k=>⟨h.1,dsR_set h.2 k⟩
 | [],_::_,_,_,_,h,_=>h.elim
 | _::_,[],_,_,_,h,_=>h.elim
theorem cellsAt_set {W:World} {b o:Nat} {us:List Value} {v:Value} (h:CellsAt W b us):CellsAt (W.setCell ⟨b,o,none⟩ v) b (us.set o v):=by
 obtain ⟨T,h⟩:=h
 refine ⟨T,?_⟩
 rw [set6 o v h]
 simp
theorem cellsAt_other {W:World} {b b' o:Nat} {us:List Value} {v:Value} (hne:b≠b') (h:CellsAt W b us):CellsAt (W.setCell ⟨b',o,none⟩ v) b us:=by
 obtain ⟨T,h⟩:=h
 exact ⟨T,setCell_o hne h⟩
theorem holds_set {W:World} {M:Nat→Prop} {a:Addr} {v:Value} (h:M a.block):Holds M W (W.setCell a v):=⟨by rw [size_set];exact Nat.le_refl _,fun b _ hM _=>setCell_other fun e=>hM (by rw [e];exact h)⟩
theorem nodup_ne {bs:List Nat} (hn:bs.Nodup) {i j b b':Nat} (h1:bs[i]? = some b) (h2:bs[j]? = some b') (h:i≠j):b≠b':=by
 obtain ⟨hi,e1⟩:=List.getElem?_eq_some_iff.1 h1
 obtain ⟨hj,e2⟩:=List.getElem?_eq_some_iff.1 h2
 rintro rfl
 exact h ((List.getElem_inj hn).1 (e1.trans e2.symm))
theorem holdC_put {W:World} {M:Nat→Prop} {bs:List Nat} {cs:List (List Sx.D)} {i b o:Nat} {d:Sx.D} {v:Value} (hn:bs.Nodup) (hM:∀ b∈bs,M b) (h:HoldC W M bs cs) (hb:bs[i]? = some b) (hd:∀ W',Rep W' M d v) :
  HoldC (W.setCell ⟨b,o,none⟩ v) M bs (setC cs i fun c=>c.set o d):=by
 have hMb:M b:=hM b (List.mem_of_getElem? hb)
 intro j b' ds h1 h2
 rw [setC_get] at h2
 split at h2
 ·rename_i e
  subst e
  rw [hb] at h1
  injection h1 with h1
  subst h1
  obtain ⟨c,hc,rfl⟩:=Option.map_eq_some_iff.1 h2
  obtain ⟨us,k1,k2⟩:=h j b c hb hc
  exact ⟨us.set o v,cellsAt_set k1,dsR_set (k2.mono (holds_set hMb) fun _ _ h=>h) (hd _)⟩
 ·rename_i e
  obtain ⟨us,k1,k2⟩:=h j b' ds h1 h2
  exact ⟨us,cellsAt_other (nodup_ne hn h1 hb e) k1,k2.mono (holds_set hMb) fun _ _ h=>h⟩
theorem tg_v {bs:List Nat} {cs:List (List Sx.D)} {t:TypeId × Nat × Nat} (h:plOk cs t):(tgOf bs t).v=ptV bs t:=by
 obtain ⟨t,i,o⟩:=t
 obtain ⟨h,_⟩:=h
 unfold tgOf ptV
 simp only at h ⊢
 rcases h with rfl|rfl|rfl
 ·rw [if_pos rfl];rfl
 ·rw [if_neg (by decide),if_pos rfl];rfl
 ·rw [if_neg (by decide),if_neg (by decide)];rfl
theorem tg_b {bs:List Nat} {t:TypeId × Nat × Nat}:(tgOf bs t).b=bs.getD t.2.1 0:=by
 unfold tgOf
 repeat' split
 all_goals rfl
theorem tg_in {bs:List Nat} {cs:List (List Sx.D)} {t:TypeId × Nat × Nat} (hl:bs.length=cs.length) (h:plOk cs t):bs[t.2.1]? = some (bs.getD t.2.1 0):=by
 obtain ⟨_,c,h2,_⟩:=h
 have:=(List.getElem?_eq_some_iff.1 h2).1
 rw [List.getElem?_eq_getElem (by omega),List.getD_eq_getElem?_getD,List.getElem?_eq_getElem (by omega)]
 rfl
theorem scanD_ok {M:Nat→Prop} {bs:List Nat} (hn:bs.Nodup) (hM:∀ b∈bs,M b):∀ (ws:List Str) (ts:List (TypeId × Nat × Nat)) (cs:List (List Sx.D)) (W:World),bs.length=cs.length→(∀ t∈ts,plOk cs t)→HoldC W M bs cs →
  (scanW ws (ts.map (tgOf bs)) W).2=(scanD ws ts cs).2∧HoldC (scanW ws (ts.map (tgOf bs)) W).1 M bs (scanD ws ts cs).1∧(scanD ws ts cs).1.length=cs.length
 | [],ts,cs,W,_,_,h=>by cases ts<;>exact ⟨rfl,h,rfl⟩
 | _::_,[],cs,W,_,_,h=>⟨rfl,h,rfl⟩
 | s::ws,(T,i,o)::ts,cs,W,hl,hp,h=>by
  have hpt:=hp _ (List.mem_cons_self ..)
  have hb:=tg_in hl hpt
  simp only at hb
  rw [List.map_cons]
  unfold scanW scanD
  have e:tgOf bs (T,i,o)=if T=93 then .r (bs.getD i 0) o else if T=145 then .l (bs.getD i 0) o else .i (bs.getD i 0) o:=rfl
  rw [e]
  unfold putD
  by_cases hT:T=93
  ·subst hT
   rw [if_pos rfl,if_pos rfl]
   simp only [Tg.put]
   cases hq:frV s with
   | none=>exact ⟨rfl,h,rfl⟩
   | some q =>
    simp only [Option.map_some]
    have qi:=frV_in hq
    have h1:=holdC_put (o:=o) (d:=i64 q.1) (v:=.int .i64 q.1) hn hM h hb (fun W'=>.v _ rfl qi.1)
    have h2:=holdC_put (o:=o+1) (d:=i64 q.2) (v:=.int .i64 q.2) hn hM h1 hb (fun W'=>.v _ rfl qi.2)
    have e2:setC (setC cs i fun c=>c.set o (i64 q.1)) i (fun c=>c.set (o+1) (i64 q.2))=setC cs i fun c=>(c.set o (i64 q.1)).set (o+1) (i64 q.2):=by
     refine List.ext_getElem? fun j => ?_
     rw [setC_get,setC_get,setC_get]
     by_cases hj:j=i
     ·rw [if_pos hj,if_pos hj,if_pos hj,Option.map_map];rfl
     ·rw [if_neg hj,if_neg hj,if_neg hj]
    rw [e2] at h2
    obtain ⟨r1,r2,r3⟩:=scanD_ok hn hM ws ts _ _ (by rw [setC_len];exact hl) (fun t ht=>plOk_set (fun c=>by rw [List.length_set,List.length_set]) (hp t (List.mem_cons_of_mem _ ht))) h2
    exact ⟨r1,r2,r3.trans (setC_len ..)⟩
  ·rw [if_neg hT,if_neg hT]
   have key:∀ n,atoV s=some n→(scanW ws (ts.map (tgOf bs)) (W.setCell ⟨bs.getD i 0,o,none⟩ (.int .i64 n))).2=(scanD ws ts (setC cs i fun c=>c.set o (i64 n))).2∧HoldC (scanW ws (ts.map (tgOf bs)) (W.setCell ⟨bs.getD i 0,o,none⟩ (.int .i64 n))).1 M bs (scanD ws ts (setC cs i fun c=>c.set o (i64 n))).1∧(scanD ws ts (setC cs i fun c=>c.set o (i64 n))).1.length=cs.length:=fun n hq=>by
    have h1:=holdC_put (o:=o) (d:=i64 n) (v:=.int .i64 n) hn hM h hb (fun W'=>.v _ rfl (atoV_in hq))
    obtain ⟨r1,r2,r3⟩:=scanD_ok hn hM ws ts _ _ (by rw [setC_len];exact hl) (fun t ht=>plOk_set (fun c=>by rw [List.length_set]) (hp t (List.mem_cons_of_mem _ ht))) h1
    exact ⟨r1,r2,r3.trans (setC_len ..)⟩
   by_cases hT2:T=145
   ·rw [if_pos hT2]
    simp only [Tg.put]
    cases hq:atoV s with
    | none=>exact ⟨rfl,h,rfl⟩
    | some n=>exact key n hq
   ·rw [if_neg hT2]
    simp only [Tg.put]
    cases hq:atoV s with
    | none=>exact ⟨rfl,h,rfl⟩
    | some n=>exact key n hq
theorem cel_at {W:World} {b o:Nat} {us:List Value} (h:CellsAt W b us) (ho:o<us.length):Cel W b o:=by
 obtain ⟨T,h⟩:=h
 exact cel6 h (by simpa using ho)
theorem scan_ptr (ws:List Str) (ts:List (TypeId × Nat × Nat)) (cs cs':List (List Sx.D)) (b:Bool) (hl:ws.length≤1000000) (hlt:ts.length≤100) (hs:∀ x∈ws,x.length≤1000000) (hp:∀ t∈ts,plOk cs t) (hr:(if ws.length=ts.length then scanD ws ts cs else (cs,false))=(cs',b)) :
  FnPtr Tryz.prog 45 [.one (strs ws)] ts cs (.c (.one (bol b))) cs':=by
 have hlen':cs'.length=cs.length:=by
  split at hr
  ·have:=(scanD_ok (M:=fun _=>False) (bs:=[]) List.nodup_nil (fun b hb=>by cases hb) ws ts cs)
   have key:∀ (ws:List Str) (ts:List (TypeId × Nat × Nat)) (cs:List (List Sx.D)),(scanD ws ts cs).1.length=cs.length:=by
    intro ws
    induction ws with
    | nil=>intro ts cs;cases ts<;>rfl
    | cons s ws ih =>
     intro ts cs
     cases ts with
     | nil=>rfl
     | cons t ts =>
      unfold scanD putD
      by_cases ht:t.1=93
      ·rw [if_pos ht]
       cases frV s with
       | none=>rfl
       | some q=>exact (ih ts _).trans (setC_len ..)
      ·rw [if_neg ht]
       cases atoV s with
       | none=>rfl
       | some q=>exact (ih ts _).trans (setC_len ..)
   have:=key ws ts cs
   rw [hr] at this
   exact this
  ·injection hr with h1 h2
   rw [← h1]
 refine ⟨hlen',fun w M vs bs nb hM hbl hnd hbM hnb hMn hvs hC hcel => ?_⟩
 match vs,hvs with
 | [v],⟨hv,_⟩ =>
  have hv:Rep w M (strs ws) v:=hv
  refine ⟨45,Tryz.call45 _ _,?_⟩
  have hTs:∀ t∈ts.map (tgOf bs),t.b∈bs:=fun t ht=>by
   obtain ⟨u,hu,rfl⟩:=List.mem_map.1 ht
   rw [tg_b]
   exact List.mem_of_getElem? (tg_in hbl (hp u hu))
  have hcl:ts.map (ptV bs)=(ts.map (tgOf bs)).map Tg.v:=by
   rw [List.map_map]
   exact List.map_congr_left fun t ht=>(tg_v (hp t ht)).symm
  rw [hcl] at hcel
  obtain ⟨T,hT⟩:=hcel
  have hnl:nb<w.heap.size:=(Array.getElem?_eq_some_iff.1 hT).1
  have hout:Outs w (ts.map (tgOf bs)) (some ⟨nb,0,none⟩):=by
   refine ⟨fun i hi=>⟨nb,0,rfl,hnl,fun t ht e=>hnb (by rw [← e];exact hTs t ht),?_⟩,fun t ht=>hM.ge _ (hbM _ (hTs t ht)),fun t ht=>hM.lt _ (hbM _ (hTs t ht)),fun t ht => ?_⟩
   ·simp only [World.cell?,hT]
    simp at hi
    simp [hi]
   ·obtain ⟨u,hu,rfl⟩:=List.mem_map.1 ht
    have hpu:=hp u hu
    have hb:=tg_in hbl hpu
    obtain ⟨_,c,h2,h3,h4⟩:=hpu
    obtain ⟨us,k1,k2⟩:=hC _ _ _ hb h2
    have hul:us.length=c.length:=k2.length
    have e:tgOf bs u=if u.1=93 then .r (bs.getD u.2.1 0) u.2.2 else if u.1=145 then .l (bs.getD u.2.1 0) u.2.2 else .i (bs.getD u.2.1 0) u.2.2:=rfl
    rw [e]
    split
    ·rename_i hr
     exact ⟨cel_at k1 (by omega),cel_at k1 (by have:=h4 hr;omega)⟩
    ·split
     ·exact cel_at k1 (by omega)
     ·exact cel_at k1 (by omega)
  have h:=scan_any ws (ts.map (tgOf bs)) hl (by simpa using hlt) hs w hM.gd v (hv.mono (.refl _ w) fun b _ ⟨t,ht,e⟩=>hbM b (by rw [← e];exact hTs t ht)) _ ts.length hout
  rw [List.length_map] at h
  refine h.mono ?_
  intro e w' h
  obtain ⟨k1,k2,k3⟩:=scanW_keep ws (ts.map (tgOf bs)) w
  by_cases hlen:ws.length=ts.length
  ·rw [if_pos hlen] at h hr
   obtain ⟨rfl,h2⟩:=h
   obtain ⟨r1,r2,r3⟩:=scanD_ok hnd hbM ws ts cs w hbl hp hC
   rw [hr] at r1 r2
   generalize (scanW ws (ts.map (tgOf bs)) w).1=W1 at *
   have hHo:Holds M W1 w':=⟨h2.size,fun b hb hMb _=>h2.block b (by omega)⟩
   refine ⟨.bool b,by rw [r1],.v _ rfl trivial,⟨?_,?_,?_,Nat.le_trans (by omega) h2.size,fun k hk hC'=>(h2.block k hk).trans (k2 k fun t ht e=>hC' (.inl (by rw [← e];exact hTs t ht))),.inl (.inr rfl)⟩,fun i b ds h1 h3 => ?_⟩
   ·exact h2.os.trans (k3 0 fun _ _=>Nat.zero_le _).os
   ·exact h2.tape.trans (k3 0 fun _ _=>Nat.zero_le _).tape
   ·exact h2.output.trans (k3 0 fun _ _=>Nat.zero_le _).output
   ·obtain ⟨us,⟨T,q1⟩,q2⟩:=r2 i b ds h1 h3
    have hbs:b<w.heap.size:=hM.lt _ (hbM _ (List.mem_of_getElem? h1))
    exact ⟨us,⟨T,(h2.block b hbs).trans q1⟩,q2.mono hHo fun _ _ h=>h⟩
  ·rw [if_neg hlen] at h hr
   obtain ⟨rfl,h2⟩:=h
   injection hr with e1 e2
   subst e1 e2
   refine ⟨.bool false,rfl,.v _ rfl trivial,.of_below h2 (Nat.le_refl _) (.inl (.inr rfl)),fun i b ds h1 h3 => ?_⟩
   obtain ⟨us,⟨T,q1⟩,q2⟩:=hC i b ds h1 h3
   have hbs:b<w.heap.size:=hM.lt _ (hbM _ (List.mem_of_getElem? h1))
   exact ⟨us,⟨T,(h2.block b hbs).trans q1⟩,q2.mono (Holds.of_below h2) fun _ _ h=>h⟩
structure Pw where
 r:Int
 id:Int
 n:Int
 d:Int
 b:Int
def pcX:List Str→Pw × Bool
 | [a,b,c,e]=>match atoV a with
  | none=>(⟨0,0,0,0,0⟩,false)
  | some r=>match atoV b with
   | none=>(⟨r,0,0,0,0⟩,false)
   | some id=>match frV c with
    | none=>(⟨r,id,0,0,0⟩,false)
    | some q=>match atoV e with
     | none=>(⟨r,id,q.1,q.2,0⟩,false)
     | some v=>(⟨r,id,q.1,q.2,v⟩,true)
 | _=>(⟨0,0,0,0,0⟩,false)
theorem pcX_is (n d:Int) (w:List Str):pcdP n d w=if (pcX w).2=true then plcV (pcX w).1.id ((pcX w).1.n,(pcX w).1.d) (pcX w).1.b n d else none:=by
 unfold pcdP pcX
 match w with
 | [a,b,c,e] =>
  rcases h1:atoV a with _|i
  ·simp [h1]
  ·rcases h2:atoV b with _|j
   ·simp [h1,h2]
   ·rcases h3:frV c with _|q
    ·simp [h1,h2,h3]
    ·rcases h4:atoV e with _|v<;>simp [h1,h2,h3,h4]
 | []=>rfl
 | [_]=>rfl
 | [_,_]=>rfl
 | [_,_,_]=>rfl
 | _::_::_::_::_::_=>rfl
theorem pc_ptr (t:List Str) (hl:t.length≤1000000) (hs:∀ x∈t,x.length≤1000000):FnPtr Tryz.prog 45 [.one (strs t)] [(136,0,0),(136,2,0),(93,1,0),(145,2,2)] [[i64 0],[i64 0,i64 0],[i64 0,i64 0,i64 0]] (.c (.one (bol (pcX t).2)))
  [[i64 (pcX t).1.r],[i64 (pcX t).1.n,i64 (pcX t).1.d],[i64 (pcX t).1.id,i64 0,i64 (pcX t).1.b]]:=by
 refine scan_ptr t _ _ _ _ hl (by decide) hs (fun u hu => ?_) ?_
 ·simp only [List.mem_cons,List.not_mem_nil,or_false] at hu
  rcases hu with rfl|rfl|rfl|rfl
  ·exact ⟨.inr (.inr rfl),_,rfl,by decide,fun h=>by revert h;decide⟩
  ·exact ⟨.inr (.inr rfl),_,rfl,by decide,fun h=>by revert h;decide⟩
  ·exact ⟨.inl rfl,_,rfl,by decide,fun h=>by decide⟩
  ·exact ⟨.inr (.inl rfl),_,rfl,by decide,fun h=>by revert h;decide⟩
 ·have r0:¬ (136:TypeId)=93:=by decide
  have r1:¬ (145:TypeId)=93:=by decide
  unfold pcX
  match t with
  | [a,b,c,e] =>
   rcases h1:atoV a with _|i
   ·simp [scanD,putD,setC,h1,r0,r1]
   ·rcases h2:atoV b with _|j
    ·simp [scanD,putD,setC,h1,h2,r0,r1]
    ·rcases h3:frV c with _|q
     ·simp [scanD,putD,setC,h1,h2,h3,r0,r1]
     ·rcases h4:atoV e with _|v<;>simp [scanD,putD,setC,h1,h2,h3,h4,r0,r1]
  | []=>rfl
  | [_]=>rfl
  | [_,_]=>rfl
  | [_,_,_]=>rfl
  | _::_::_::_::_::_=>simp
theorem now_ptr (s:Str) (hs:s.length≤1000000):FnPtr Tryz.prog 45 [.one (strs [s])] [(93,0,0)] [[i64 0,i64 0,.nil 3]] (.c (.one (bol (frV s).isSome))) [[i64 ((frV s).getD (0,0)).1,i64 ((frV s).getD (0,0)).2,.nil 3]]:=by
 refine scan_ptr [s] _ _ _ _ (by simp) (by decide) (fun x hx=>by obtain rfl:=List.mem_singleton.1 hx;exact hs) (fun u hu => ?_) ?_
 ·obtain rfl:=List.mem_singleton.1 hu
  exact ⟨.inl rfl,_,rfl,by show 0<3;decide,fun _=>by show 0+1<3;decide⟩
 ·rcases h1:frV s with _|q<;>simp [scanD,putD,setC,h1]
end Go.Proofs.YtfkfficabeclcaaGreatDoor

namespace Go.Proofs.YtfkfficabeclcaaGreatDoor
open Go Go.RowKit
namespace Sx
def TyB:List (Nat × TD):=(20,.sc (.v .nilIface))::(85,.sl 1 false [.v .nilIface])::Ty
theorem ty_allB:TysOK Tryz.prog TyB:=⟨⟨Tryz.sizeOf20,Tryz.isAgg20,⟨_,Tryz.zeroValue20,fun _ _=>⟨.v _ rfl (wfB_iff rfl),trivial⟩⟩,trivial⟩,
 ⟨Tryz.sizeOf85,Tryz.isAgg85,⟨_,Tryz.zeroValue85,fun _ _=>⟨.nl _,trivial⟩⟩,sl_ty Tryz.underlying85 Tryz.sizeOf20 Tryz.isAgg20 Tryz.zeroValue20 rfl (show Tryz.prog.info? 20=some Tryz.t20 by kernel_rfl) rfl rfl rfl (fun _ _=>⟨.v _ rfl (wfB_iff rfl),trivial⟩) rfl⟩,ty_all⟩
theorem ty_okKB (K mu co me:List Nat):ΓOK Tryz.prog ⟨TyB,K,mu,co,me,false⟩:=tys_ok ty_allB
end Sx
end Go.Proofs.YtfkfficabeclcaaGreatDoor
