import Derived.Test.YtfkfficabeclcaaGreatDoorGLTNamesAY
import Derived.Test.YtfkfficabeclcaaGreatDoorGLTNamesAP
import Derived.Test.YtfkfficabeclcaaGreatDoorGLTNamesAO
set_option linter.all false
namespace Go.Proofs.YtfkfficabeclcaaGreatDoor
open Go Go.RowKit Go.Sort Sx
open Go.Lib hiding intOf
set_option maxRecDepth 2000
theorem sorted_lit {α:Type} {R:α→α→Prop} (ha:∀ a b,R a b→¬ R b a) {l L:List α} (hp:l.Perm L) (hs:l.Pairwise fun a b=>¬ R b a) (hL:L.Pairwise R):l=L:=by
 refine List.Perm.eq_of_pairwise (le:=fun a b=>¬ R b a) (fun a b ha hb h1 h2 => ?_) hs (hL.imp fun {a b} h=>ha a b h) hp
 obtain ⟨i,hi,rfl⟩:=List.getElem_of_mem (hp.mem_iff.1 ha)
 obtain ⟨j,hj,rfl⟩:=List.getElem_of_mem hb
 rcases Nat.lt_trichotomy i j with h|h|h
 ·exact absurd (List.pairwise_iff_getElem.1 hL i j hi hj h) h2
 ·subst h;rfl
 ·exact absurd (List.pairwise_iff_getElem.1 hL j i hj hi h) h1
theorem ldr_asymm {n m:Int} (a b:Pt) (h:ldr n m a b):¬ ldr n m b a:=by unfold ldr at *;omega
theorem srt_lit {n m:Int} {l L:List Pt} (hp:l.Perm L) (hL:L.Pairwise (ldr n m)):srt n m l=L:=sorted_lit ldr_asymm ((srt_perm n m l).trans hp) (srt_sorted n m l) hL
theorem msrt_lit {l L:List Mt} (hp:l.Perm L) (hL:L.Pairwise mlt):msrt l=L:=sorted_lit (fun _ _ h k=>mlt_asymm h k) ((msrt_perm l).trans hp) (msrt_sorted l) hL
def nxtL (M:List Mt) (n e:Int):Str:=if h:bcnt M n e<M.length then joinS (wNext::mWords M[bcnt M n e]) else wNext0
theorem stT_lit {m:Md} {L:List Pt} {M:List Mt} {T:Str} (h1:m.l.Perm L) (h2:L.Pairwise (ldr m.n m.d)) (h3:(outs (pairsOf m.l)).Perm M) (h4:M.Pairwise mlt) (h5:nlS (headB m::rowsK m.n m.d L m.l.length++[clsB m,nxtL M m.n m.d])=T):stT m=T:=by
 have e:nxtB m=nxtL M m.n m.d:=by
  unfold nxtB nxtV nxtL
  rw [show allM m.l=M from msrt_lit h3 h4]
  by_cases h:bcnt M m.n m.d<M.length
  ·rw [dif_pos h,dif_pos h,if_pos rfl]
  ·rw [dif_neg h,dif_neg h,if_neg (by decide)]
 rw [← h5]
 unfold stT linesV
 rw [e,srt_lit h1 h2]
theorem is_fn (r:Rp) (w:Str) (h:rchk r=0) (h2:r.n≤9223372036854775807 ∧ -9223372036854775808≤r.n∧r.d≤9223372036854775807) (h3:∀ m∈r.ms,m.n≤9223372036854775807 ∧ -9223372036854775808≤m.n∧m.d≤9223372036854775807) (hw:rText r=w) (hl:r.ms.length≤1000000) (hl2:w.length≤110000):FnOK Tryz.prog 8 [r.dc,.one (str w)] (.c (.one (bol true))):=by
 obtain ⟨b1,b2⟩:=reply_back h (rin_of h h2 h3) (by rw [hw];exact hl2)
 rw [hw] at b1 b2
 exact TLis_fn r w b1 b2 hl (by omega)
theorem stands_fn (m:Md) (w:Str) (h:mchk m=0) (hw:stT m=w):FnOK Tryz.prog 13 [m.dc,.one (str w)] (.c (.one (bol true))):=by
 obtain ⟨b1,b2⟩:=stand_back h
 have hl:=stT_len h
 rw [hw] at b1 b2 hl
 exact TLstands_fn m w b1 b2 (by omega)
theorem TLat_fn (n:Int):FnOK Tryz.prog 9 [.one (i64 n)] (.c (rat n 1)):=by
 refine fn_ok (by kernel_rfl) ty_ok Tryz.func9 rfl (fun _ _=>Tryz.call9 _ _) rfl ?_
 intro hw
 clear hw
 exact zw
theorem TLalive_fn:FnOK Tryz.prog 21 [] (.c (.one (bol true))):=by
 have I1:FnOK Tryz.prog 8 [.agg [i64 0,i64 2,i64 0,i64 13,i64 2,.list 4 []],.one (str [108,101,97,100,101,114,32,50,32,49,51,47,50])] (.c (.one (bol true))):=is_fn ⟨0,2,0,13,2,[]⟩ _ (by decide) (by decide) (by decide) (by kernel_rfl) (by decide) (by decide)
 have I2:FnOK Tryz.prog 8 [.agg [i64 0,i64 0,i64 0,i64 0,i64 0,.list 4 [[i64 0,i64 1,i64 1,i64 5],[i64 2,i64 1,i64 1,i64 2]]],.one (str [109,101,101,116,105,110,103,115,32,48,32,49,32,53,32,50,32,49,32,50])] (.c (.one (bol true))):=is_fn ⟨0,0,0,0,0,[⟨0,1,1,5⟩,⟨2,1,1,2⟩]⟩ _ (by decide) (by decide) (by decide) (by kernel_rfl) (by decide) (by decide)
 have I3:FnOK Tryz.prog 13 [.agg [i64 1,i64 1,.list 3 [[i64 1,i64 0,i64 2],[i64 2,i64 6,i64 (-1)]]],.one (str [116,105,109,101,32,49,32,112,111,105,110,116,115,32,50,10,49,32,50,32,53,32,45,49,10,50,32,49,32,50,32,50,10,99,108,111,115,101,115,116,32,49,32,50,32,51,10,110,101,120,116,32,50,32,49,32,50,10])] (.c (.one (bol true))):=stands_fn ⟨1,1,[⟨1,0,2⟩,⟨2,6,-1⟩]⟩ _ (by decide) (stT_lit (L:=[⟨2,6,-1⟩,⟨1,0,2⟩]) (M:=[⟨2,1,1,2⟩]) (by decide) (by decide) (by decide) (by decide) (by kernel_rfl))
 have A0:=TLat_fn 0
 have A1:=TLat_fn 1
 have A2:=TLat_fn 2
 refine fn_ok (by kernel_rfl) ty_ok Tryz.func21 rfl (fun _ _=>Tryz.call21 _ _) rfl ?_
 intro hw
 clear hw
 repeat' ((conv=>whnf);first|(with_reducible first|refine br_t ?_|refine br_f ?_|refine za ?_|refine zg ?_)|refine zsl ?_|refine zsg ?_|refine zss ?_|refine zs1 ?_|refine zse ?_|refine zsn ?_|refine zsc ?_|(with_reducible first|refine zpa ?_|refine zqa ?_)|refine zp ?_|refine zq ?_|(with_reducible first|refine bc (fun h => ?_) (fun h => ?_)|refine zt ?_|refine zf ?_|refine br_i (fun h => ?_) (fun h => ?_))|refine zg ?_|refine zi ?_|refine zb ?_)
 all_goals conv=>whnf
 all_goals rfl
end Go.Proofs.YtfkfficabeclcaaGreatDoor

namespace Go.Proofs.YtfkfficabeclcaaGreatDoor
open Go Go.RowKit Go.Sort Sx
open Go.Lib hiding intOf
theorem formN {w:Str} (h:srdG frV pcdP w=none) (hl:w.length≤110000):sreadP w=(⟨0,0,[]⟩,12):=by
 unfold sreadP srdP
 rw [if_neg (by omega),h]
 rfl
theorem formS {w:Str} {n d:Int} {l l':List Pt} (h:srdG frV pcdP w=some (n,d,l)) (hp:l'.Perm l) (hs:l'.Pairwise fun a b=>a.id≤b.id) (hne:mchk ⟨n,d,l'⟩=0→stT ⟨n,d,l'⟩≠w) (hl:w.length≤110000):sreadP w=(⟨0,0,[]⟩,12):=by
 unfold sreadP srdP
 rw [if_neg (by omega),h,backS_any hp hs,if_neg fun c=>hne c.1 c.2]
theorem t0_lit:stT ⟨0,1,[]⟩=[116,105,109,101,32,48,32,112,111,105,110,116,115,32,48,10,99,108,111,115,101,115,116,32,110,111,110,101,10,110,101,120,116,32,110,111,110,101,10]:=stT_lit (L:=[]) (M:=[]) (by decide) (by decide) (by decide) (by decide) (by kernel_rfl)
theorem t1_lit:stT ⟨0,1,[⟨7,0,0⟩]⟩=[116,105,109,101,32,48,32,112,111,105,110,116,115,32,49,10,49,32,55,32,48,32,48,10,99,108,111,115,101,115,116,32,110,111,110,101,10,110,101,120,116,32,110,111,110,101,10]:=stT_lit (L:=[⟨7,0,0⟩]) (M:=[]) (by decide) (by decide) (by decide) (by decide) (by kernel_rfl)
theorem t2_lit:stT ⟨0,1,[⟨6,0,0⟩,⟨7,0,0⟩]⟩=[116,105,109,101,32,48,32,112,111,105,110,116,115,32,50,10,49,32,54,32,48,32,48,10,50,32,55,32,48,32,48,10,99,108,111,115,101,115,116,32,54,32,55,32,48,10,110,101,120,116,32,110,111,110,101,10]:=stT_lit (L:=[⟨6,0,0⟩,⟨7,0,0⟩]) (M:=[]) (by decide) (by decide) (by decide) (by decide) (by kernel_rfl)
theorem nl0:FnOK Tryz.prog 12 [.one (str [])] (.c (.one (bol true))):=TLnone_fn _ (by kernel_rfl) (by decide)
theorem nl1:FnOK Tryz.prog 12 [.one (str [101,114,114,111,114,32,48])] (.c (.one (bol true))):=TLnone_fn _ (by kernel_rfl) (by decide)
theorem nl2:FnOK Tryz.prog 12 [.one (str [101,114,114,111,114,32,49,48,48])] (.c (.one (bol true))):=TLnone_fn _ (by kernel_rfl) (by decide)
theorem nl3:FnOK Tryz.prog 12 [.one (str [101,114,114,111,114,32,48,52])] (.c (.one (bol true))):=TLnone_fn _ (by kernel_rfl) (by decide)
theorem nl4:FnOK Tryz.prog 12 [.one (str [101,114,114,111,114])] (.c (.one (bol true))):=TLnone_fn _ (by kernel_rfl) (by decide)
theorem nl5:FnOK Tryz.prog 12 [.one (str [100,111,110,101,32])] (.c (.one (bol true))):=TLnone_fn _ (by kernel_rfl) (by decide)
theorem nl6:FnOK Tryz.prog 12 [.one (str [68,111,110,101])] (.c (.one (bol true))):=TLnone_fn _ (by kernel_rfl) (by decide)
theorem nl7:FnOK Tryz.prog 12 [.one (str [108,101,97,100,101,114,32,49])] (.c (.one (bol true))):=TLnone_fn _ (by kernel_rfl) (by decide)
theorem nl8:FnOK Tryz.prog 12 [.one (str [108,101,97,100,101,114,32,54,53,53,51,54,32,48])] (.c (.one (bol true))):=TLnone_fn _ (by kernel_rfl) (by decide)
theorem nl9:FnOK Tryz.prog 12 [.one (str [108,101,97,100,101,114,32,49,32,50,47,52])] (.c (.one (bol true))):=TLnone_fn _ (by kernel_rfl) (by decide)
theorem nl10:FnOK Tryz.prog 12 [.one (str [108,101,97,100,101,114,32,49,32,49,32,49])] (.c (.one (bol true))):=TLnone_fn _ (by kernel_rfl) (by decide)
theorem nl11:FnOK Tryz.prog 12 [.one (str [112,97,105,114,32,49,32,49,32,48])] (.c (.one (bol true))):=TLnone_fn _ (by kernel_rfl) (by decide)
theorem nl12:FnOK Tryz.prog 12 [.one (str [112,97,105,114,32,50,32,49,32,48])] (.c (.one (bol true))):=TLnone_fn _ (by kernel_rfl) (by decide)
theorem nl13:FnOK Tryz.prog 12 [.one (str [112,97,105,114,32,49,32,50,32,45,49])] (.c (.one (bol true))):=TLnone_fn _ (by kernel_rfl) (by decide)
theorem nl14:FnOK Tryz.prog 12 [.one (str [112,97,105,114,32,49,32,50])] (.c (.one (bol true))):=TLnone_fn _ (by kernel_rfl) (by decide)
theorem nl15:FnOK Tryz.prog 12 [.one (str [109,101,101,116,105,110,103,115])] (.c (.one (bol true))):=TLnone_fn _ (by kernel_rfl) (by decide)
theorem nl16:FnOK Tryz.prog 12 [.one (str [109,101,101,116,105,110,103,115,32,49,32,50])] (.c (.one (bol true))):=TLnone_fn _ (by kernel_rfl) (by decide)
theorem nl17:FnOK Tryz.prog 12 [.one (str [109,101,101,116,105,110,103,115,32,49,32,50,32,49])] (.c (.one (bol true))):=TLnone_fn _ (by kernel_rfl) (by decide)
theorem nl18:FnOK Tryz.prog 12 [.one (str [109,101,101,116,105,110,103,115,32,50,32,49,32,50,32,49,32,49,32,50])] (.c (.one (bol true))):=TLnone_fn _ (by kernel_rfl) (by decide)
theorem nl19:FnOK Tryz.prog 12 [.one (str [109,101,101,116,105,110,103,115,32,49,32,49,32,50,10])] (.c (.one (bol true))):=TLnone_fn _ (by kernel_rfl) (by decide)
theorem nl20:FnOK Tryz.prog 12 [.one (str [109,101,101,116,105,110,103,115,32,49,32,49,32,50,32])] (.c (.one (bol true))):=TLnone_fn _ (by kernel_rfl) (by decide)
theorem fl0:FnOK Tryz.prog 14 [.one (str [])] (.c (.one (bol true))):=TLform_fn _ (formN (by kernel_rfl) (by decide)) (by decide)
theorem fl1:FnOK Tryz.prog 14 [.one (str [116,105,109,101,32,48,32,112,111,105,110,116,115,32,48,10,99,108,111,115,101,115,116,32,110,111,110,101,10])] (.c (.one (bol true))):=TLform_fn _ (formN (by kernel_rfl) (by decide)) (by decide)
theorem fl2:FnOK Tryz.prog 14 [.one (str [116,105,109,101,32,48,32,112,111,105,110,116,115,32,48,10,99,108,111,115,101,115,116,32,110,111,110,101,10,110,101,120,116,32,110,111,110,101])] (.c (.one (bol true))):=TLform_fn _ (formN (by kernel_rfl) (by decide)) (by decide)
theorem fl3:FnOK Tryz.prog 14 [.one (str [116,105,109,101,32,48,32,112,111,105,110,116,115,32,49,10,99,108,111,115,101,115,116,32,110,111,110,101,10,110,101,120,116,32,110,111,110,101,10])] (.c (.one (bol true))):=TLform_fn _ (formS (n:=0) (d:=1) (l:=[]) (l':=[]) (by kernel_rfl) (by decide) (by decide) (fun _=>by rw [t0_lit];decide) (by decide)) (by decide)
theorem fl4:FnOK Tryz.prog 14 [.one (str [116,105,109,101,32,49,47,50,32,112,111,105,110,116,115,32,49,10,49,32,55,32,49,32,49,10,99,108,111,115,101,115,116,32,110,111,110,101,10,110,101,120,116,32,110,111,110,101,10])] (.c (.one (bol true))):=TLform_fn _ (formN (by kernel_rfl) (by decide)) (by decide)
theorem fl5:FnOK Tryz.prog 14 [.one (str [116,105,109,101,32,49,47,49,48,50,53,32,112,111,105,110,116,115,32,48,10,99,108,111,115,101,115,116,32,110,111,110,101,10,110,101,120,116,32,110,111,110,101,10])] (.c (.one (bol true))):=TLform_fn _ (formS (n:=1) (d:=1025) (l:=[]) (l':=[]) (by kernel_rfl) (by decide) (by decide) (fun h=>absurd h (by decide)) (by decide)) (by decide)
theorem fl6:FnOK Tryz.prog 14 [.one (str [116,105,109,101,32,48,32,112,111,105,110,116,115,32,49,10,50,32,55,32,48,32,48,10,99,108,111,115,101,115,116,32,110,111,110,101,10,110,101,120,116,32,110,111,110,101,10])] (.c (.one (bol true))):=TLform_fn _ (formS (n:=0) (d:=1) (l:=[⟨7,0,0⟩]) (l':=[⟨7,0,0⟩]) (by kernel_rfl) (by decide) (by decide) (fun _=>by rw [t1_lit];decide) (by decide)) (by decide)
theorem fl7:FnOK Tryz.prog 14 [.one (str [116,105,109,101,32,48,32,112,111,105,110,116,115,32,49,10,49,32,55,32,49,48,52,56,53,55,55,32,48,10,99,108,111,115,101,115,116,32,110,111,110,101,10,110,101,120,116,32,110,111,110,101,10])] (.c (.one (bol true))):=TLform_fn _ (formN (by kernel_rfl) (by decide)) (by decide)
theorem fl8:FnOK Tryz.prog 14 [.one (str [116,105,109,101,32,48,32,112,111,105,110,116,115,32,49,10,49,32,55,32,48,32,49,48,52,56,53,55,55,10,99,108,111,115,101,115,116,32,110,111,110,101,10,110,101,120,116,32,110,111,110,101,10])] (.c (.one (bol true))):=TLform_fn _ (formN (by kernel_rfl) (by decide)) (by decide)
theorem fl9:FnOK Tryz.prog 14 [.one (str [116,105,109,101,32,48,32,112,111,105,110,116,115,32,49,10,49,32,54,53,53,51,54,32,48,32,48,10,99,108,111,115,101,115,116,32,110,111,110,101,10,110,101,120,116,32,110,111,110,101,10])] (.c (.one (bol true))):=TLform_fn _ (formN (by kernel_rfl) (by decide)) (by decide)
theorem fl10:FnOK Tryz.prog 14 [.one (str [116,105,109,101,32,48,32,112,111,105,110,116,115,32,49,10,49,32,55,32,48,10,99,108,111,115,101,115,116,32,110,111,110,101,10,110,101,120,116,32,110,111,110,101,10])] (.c (.one (bol true))):=TLform_fn _ (formN (by kernel_rfl) (by decide)) (by decide)
theorem fl11:FnOK Tryz.prog 14 [.one (str [116,105,109,101,32,48,32,112,111,105,110,116,115,32,50,10,49,32,55,32,48,32,48,10,50,32,54,32,48,32,48,10,99,108,111,115,101,115,116,32,54,32,55,32,48,10,110,101,120,116,32,110,111,110,101,10])] (.c (.one (bol true))):=TLform_fn _ (formS (n:=0) (d:=1) (l:=[⟨7,0,0⟩,⟨6,0,0⟩]) (l':=[⟨6,0,0⟩,⟨7,0,0⟩]) (by kernel_rfl) (by decide) (by decide) (fun _=>by rw [t2_lit];decide) (by decide)) (by decide)
theorem fl12:FnOK Tryz.prog 14 [.one (str [116,105,109,101,32,48,32,112,111,105,110,116,115,32,50,10,49,32,54,32,48,32,48,10,50,32,54,32,48,32,48,10,99,108,111,115,101,115,116,32,54,32,54,32,48,10,110,101,120,116,32,110,111,110,101,10])] (.c (.one (bol true))):=TLform_fn _ (formS (n:=0) (d:=1) (l:=[⟨6,0,0⟩,⟨6,0,0⟩]) (l':=[⟨6,0,0⟩,⟨6,0,0⟩]) (by kernel_rfl) (by decide) (by decide) (fun h=>absurd h (by decide)) (by decide)) (by decide)
theorem fl13:FnOK Tryz.prog 14 [.one (str [116,105,109,101,32,48,32,112,111,105,110,116,115,32,50,10,49,32,54,32,48,32,48,10,50,32,55,32,48,32,48,10,99,108,111,115,101,115,116,32,54,32,55,32,49,10,110,101,120,116,32,110,111,110,101,10])] (.c (.one (bol true))):=TLform_fn _ (formS (n:=0) (d:=1) (l:=[⟨6,0,0⟩,⟨7,0,0⟩]) (l':=[⟨6,0,0⟩,⟨7,0,0⟩]) (by kernel_rfl) (by decide) (by decide) (fun _=>by rw [t2_lit];decide) (by decide)) (by decide)
theorem fl14:FnOK Tryz.prog 14 [.one (str [116,105,109,101,32,48,32,112,111,105,110,116,115,32,50,10,49,32,54,32,48,32,48,10,50,32,55,32,48,32,48,10,99,108,111,115,101,115,116,32,54,32,55,32,48,10,110,101,120,116,32,48,32,54,32,55,10])] (.c (.one (bol true))):=TLform_fn _ (formS (n:=0) (d:=1) (l:=[⟨6,0,0⟩,⟨7,0,0⟩]) (l':=[⟨6,0,0⟩,⟨7,0,0⟩]) (by kernel_rfl) (by decide) (by decide) (fun _=>by rw [t2_lit];decide) (by decide)) (by decide)
theorem rep_len (n:Nat):(List.replicate n (0:UInt8)).length=n:=List.length_replicate ..
theorem fl15:FnOK Tryz.prog 14 [.one (str (List.replicate (Int.toNat 110000) 0))] (.c (.one (bol true))):=TLform_fn _ (formN (by
  unfold srdG
  rw [spl_no (fun h=>absurd (List.eq_of_mem_replicate h) (by decide))]
  rfl) (by rw [rep_len];decide)) (by rw [rep_len];decide)
theorem nbig:FnOK Tryz.prog 15 [.one (str (List.replicate (Int.toNat 110001) 0))] (retRp (rp0,4)):=by
 have H:=tReadReply_fn (List.replicate (Int.toNat 110001) 0) (by rw [rep_len];decide)
 rwa [show rreadP (List.replicate (Int.toNat 110001) 0)=(rp0,4) by unfold rreadP;rw [if_pos (by rw [rep_len];decide)]] at H
theorem fbig:FnOK Tryz.prog 16 [.one (str (List.replicate (Int.toNat 110001) 0))] (retMe (⟨0,0,[]⟩,4)):=by
 have H:=tReadStanding_fn (List.replicate (Int.toNat 110001) 0) (by rw [rep_len];decide)
 rwa [show sreadP (List.replicate (Int.toNat 110001) 0)=(⟨0,0,[]⟩,4) by unfold sreadP;rw [if_pos (by rw [rep_len];decide)]] at H
theorem zsz {z:Int} {l:List (List Sx.D)} {K:Value→Prop} (k:K (bstr (List.replicate (Int.toNat z) 0))) (e:l=List.replicate (Int.toNat z) [.v (.int .u8 0)]:=by with_reducible rfl) (h:1≤z:=by decide):∃ r,(r.oneCell'=true∧wfV r∧∀ w M v,Rep w M (.list 1 l) v→(convert 45 9 v).run Tryz.prog w=.ok r w)∧K r:=by
 subst e
 have hn:Int.toNat z≠0:=by omega
 generalize Int.toNat z=n at *
 refine ⟨bstr (List.replicate n 0),⟨rfl,trivial,fun w M v h => ?_⟩,k⟩
 have H:=conv_bytes (w:=w) (M:=M) (v:=v) (l:=List.replicate n 0) (fun e=>hn (by have:=congrArg List.length e;rwa [List.length_replicate] at this)) (by rw [List.map_replicate];exact h)
 rwa [List.map_replicate] at H
def bads23:List Rp:=[⟨-1,0,0,0,0,[]⟩,⟨100,0,0,0,0,[]⟩,⟨1,1,0,0,0,[]⟩,⟨1,0,0,0,1,[]⟩,⟨0,1,0,0,0,[]⟩,⟨0,0,1,0,0,[]⟩,⟨0,0,0,1,0,[]⟩,⟨0,0,0,2,2,[]⟩,⟨0,-1,0,0,1,[]⟩,⟨0,65536,0,0,1,[]⟩,⟨0,0,65536,0,1,[]⟩,⟨0,2,2,0,1,[]⟩,⟨0,2,1,0,1,[]⟩,⟨0,0,1,-1,1,[]⟩,⟨0,0,-1,1,1,[]⟩,⟨0,0,0,0,0,[⟨0,1,1,1⟩]⟩,⟨0,0,0,0,0,[⟨0,0,1,2⟩]⟩,⟨0,0,0,0,0,[⟨1,1,1,2⟩,⟨1,1,1,2⟩]⟩,⟨0,0,0,0,0,[⟨1,1,1,2⟩,⟨0,1,1,2⟩]⟩,⟨0,0,0,0,0,[⟨1,1,-1,2⟩]⟩,⟨0,0,0,0,0,[⟨1,1,1,65536⟩]⟩,⟨0,1,0,0,0,[⟨1,1,1,2⟩]⟩,⟨3,0,0,0,0,[⟨1,1,1,2⟩]⟩]
def badsD:List (List Sx.D):=bads23.map Rp.c++[[i64 0,i64 0,i64 0,i64 0,i64 0,.list 4 (List.replicate (Int.toNat 2017) [i64 0,i64 0,i64 0,i64 0])]]
theorem bads23_bad:∀ r∈bads23,rchk r=8∧r.ms.length≤1000000:=by decide
theorem badsD_get {i:Nat} (h:i<24):∃ r:Rp,badsD[((i:Nat):Int).toNat]? = some r.c∧rchk r=8∧r.ms.length≤1000000:=by
 rw [Int.toNat_natCast]
 have hl:(bads23.map Rp.c).length=23:=rfl
 have hl2:bads23.length=23:=rfl
 rcases Nat.lt_or_ge i 23 with h1|h1
 ·have hi:i<bads23.length:=by omega
  refine ⟨bads23[i],?_,bads23_bad _ (List.getElem_mem hi)⟩
  unfold badsD
  rw [List.getElem?_append_left (by omega),List.getElem?_map,List.getElem?_eq_getElem hi]
  rfl
 ·obtain rfl:i=23:=by omega
  refine ⟨⟨0,0,0,0,0,List.replicate (Int.toNat 2017) ⟨0,0,0,0⟩⟩,?_,?_,by rw [List.length_replicate];decide⟩
  ·unfold badsD
   rw [List.getElem?_append_right (by omega),hl,Rp.c,mts,List.map_replicate]
   rfl
  ·kernel_rfl
theorem rl0:FnOK Tryz.prog 8 [.agg [i64 0,i64 0,i64 0,i64 0,i64 0,.list 4 []],.one (str [100,111,110,101])] (.c (.one (bol true))):=is_fn ⟨0,0,0,0,0,[]⟩ _ (by decide) (by decide) (by decide) (by kernel_rfl) (by decide) (by decide)
theorem rl1:FnOK Tryz.prog 8 [.agg [i64 44,i64 0,i64 0,i64 0,i64 0,.list 4 []],.one (str [101,114,114,111,114,32,52,52])] (.c (.one (bol true))):=is_fn ⟨44,0,0,0,0,[]⟩ _ (by decide) (by decide) (by decide) (by kernel_rfl) (by decide) (by decide)
theorem rl2:FnOK Tryz.prog 8 [.agg [i64 99,i64 0,i64 0,i64 0,i64 0,.list 4 []],.one (str [101,114,114,111,114,32,57,57])] (.c (.one (bol true))):=is_fn ⟨99,0,0,0,0,[]⟩ _ (by decide) (by decide) (by decide) (by kernel_rfl) (by decide) (by decide)
theorem rl3:FnOK Tryz.prog 8 [.agg [i64 0,i64 0,i64 0,i64 0,i64 1,.list 4 []],.one (str [108,101,97,100,101,114,32,48,32,48])] (.c (.one (bol true))):=is_fn ⟨0,0,0,0,1,[]⟩ _ (by decide) (by decide) (by decide) (by kernel_rfl) (by decide) (by decide)
theorem rl4:FnOK Tryz.prog 8 [.agg [i64 0,i64 65535,i64 0,i64 (-3),i64 1,.list 4 []],.one (str [108,101,97,100,101,114,32,54,53,53,51,53,32,45,51])] (.c (.one (bol true))):=is_fn ⟨0,65535,0,-3,1,[]⟩ _ (by decide) (by decide) (by decide) (by kernel_rfl) (by decide) (by decide)
theorem rl5:FnOK Tryz.prog 8 [.agg [i64 0,i64 0,i64 1,i64 0,i64 1,.list 4 []],.one (str [112,97,105,114,32,48,32,49,32,48])] (.c (.one (bol true))):=is_fn ⟨0,0,1,0,1,[]⟩ _ (by decide) (by decide) (by decide) (by kernel_rfl) (by decide) (by decide)
theorem rl6:FnOK Tryz.prog 8 [.agg [i64 0,i64 65534,i64 65535,i64 1,i64 1024,.list 4 []],.one (str [112,97,105,114,32,54,53,53,51,52,32,54,53,53,51,53,32,49,47,49,48,50,52])] (.c (.one (bol true))):=is_fn ⟨0,65534,65535,1,1024,[]⟩ _ (by decide) (by decide) (by decide) (by kernel_rfl) (by decide) (by decide)
theorem rl7:FnOK Tryz.prog 8 [.agg [i64 0,i64 0,i64 0,i64 0,i64 0,.list 4 [[i64 (-5),i64 1,i64 0,i64 65535]]],.one (str [109,101,101,116,105,110,103,115,32,45,53,32,48,32,54,53,53,51,53])] (.c (.one (bol true))):=is_fn ⟨0,0,0,0,0,[⟨-5,1,0,65535⟩]⟩ _ (by decide) (by decide) (by decide) (by kernel_rfl) (by decide) (by decide)
theorem sl0:FnOK Tryz.prog 13 [.agg [i64 0,i64 1,.list 3 []],.one (str [116,105,109,101,32,48,32,112,111,105,110,116,115,32,48,10,99,108,111,115,101,115,116,32,110,111,110,101,10,110,101,120,116,32,110,111,110,101,10])] (.c (.one (bol true))):=stands_fn ⟨0,1,[]⟩ _ (by decide) (stT_lit (L:=[]) (M:=[]) (by decide) (by decide) (by decide) (by decide) (by kernel_rfl))
theorem sl1:FnOK Tryz.prog 13 [.agg [i64 1,i64 2,.list 3 [[i64 7,i64 1,i64 1]]],.one (str [116,105,109,101,32,49,47,50,32,112,111,105,110,116,115,32,49,10,49,32,55,32,51,47,50,32,49,10,99,108,111,115,101,115,116,32,110,111,110,101,10,110,101,120,116,32,110,111,110,101,10])] (.c (.one (bol true))):=stands_fn ⟨1,2,[⟨7,1,1⟩]⟩ _ (by decide) (stT_lit (L:=[⟨7,1,1⟩]) (M:=[]) (by decide) (by decide) (by decide) (by decide) (by kernel_rfl))
theorem sl2:FnOK Tryz.prog 13 [.agg [i64 2,i64 1,.list 3 [[i64 3,i64 4,i64 1],[i64 8,i64 0,i64 1],[i64 9,i64 4,i64 1]]],.one (str [116,105,109,101,32,50,32,112,111,105,110,116,115,32,51,10,49,32,51,32,54,32,49,10,50,32,57,32,54,32,49,10,51,32,56,32,50,32,49,10,99,108,111,115,101,115,116,32,51,32,57,32,48,10,110,101,120,116,32,110,111,110,101,10])] (.c (.one (bol true))):=stands_fn ⟨2,1,[⟨3,4,1⟩,⟨8,0,1⟩,⟨9,4,1⟩]⟩ _ (by decide) (stT_lit (L:=[⟨3,4,1⟩,⟨9,4,1⟩,⟨8,0,1⟩]) (M:=[]) (by decide) (by decide) (by decide) (by decide) (by kernel_rfl))
end Go.Proofs.YtfkfficabeclcaaGreatDoor

namespace Go.Proofs.YtfkfficabeclcaaGreatDoor
open Go Go.RowKit Go.Sort Sx
open Go.Lib hiding intOf
def fullP (i:Nat):Pt:=⟨65472+(i:Int),0,(i:Int)⟩
def fullN (k:Nat):List Pt:=(List.range k).map fullP
def fullL:List Pt:=fullN 64
theorem fullN_succ (k:Nat):fullN (k+1)=fullN k++[fullP k]:=by
 unfold fullN
 rw [List.range_succ,List.map_append]
 rfl
theorem fullN_len (k:Nat):(fullN k).length=k:=by unfold fullN;rw [List.length_map,List.length_range]
theorem full_chk:fchk fullL=0:=by kernel_rfl
theorem full_mchk:mchk ⟨0,1,fullL⟩=0:=by kernel_rfl
theorem full_mchk1:mchk ⟨-1,1,fullL⟩=0:=by kernel_rfl
theorem full_outs:((outs (pairsOf fullL)).all (fun m=>decide (m.n=0) && decide (m.d=1)) && decide ((outs (pairsOf fullL)).length=2016))=true:=by kernel_rfl
def fullM:List Mt:=btw (allM fullL) (-1) 1 0 1
theorem full_all:(allM fullL).length=2016∧∀ m∈allM fullL,m.n=0∧m.d=1:=by
 obtain ⟨h1,h2⟩:=Bool.and_eq_true_iff.1 full_outs
 refine ⟨by unfold allM;rw [msrt_len];exact of_decide_eq_true h2,fun m hm => ?_⟩
 have:=List.all_eq_true.1 h1 m (msrt_mem.1 hm)
 simpa using this
theorem full_btw:fullM=allM fullL:=by
 obtain ⟨h1,h2⟩:=full_all
 unfold fullM btw
 have e1:bcnt (allM fullL) (-1) 1=0:=by
  rcases Nat.eq_zero_or_pos (bcnt (allM fullL) (-1) 1) with h|h
  ·exact h
  ·have hk:=bcnt_lt (l:=allM fullL) (n := -1) (e:=1) (k:=0) (by omega) h
   obtain ⟨a,b⟩:=h2 _ (List.getElem_mem (l:=allM fullL) (n:=0) (by omega))
   rw [a,b] at hk
   omega
 have e2:bcnt (allM fullL) 0 1=(allM fullL).length:=by
  have h3:=bcnt_le (allM fullL) 0 1
  rcases Nat.lt_or_ge (bcnt (allM fullL) 0 1) (allM fullL).length with h|h
  ·have hk:=bcnt_at h
   obtain ⟨a,b⟩:=h2 _ (List.getElem_mem h)
   rw [a,b] at hk
   omega
  ·omega
 rw [e1,e2,List.take_length,List.drop_zero]
theorem fullM_len:fullM.length=2016:=by rw [full_btw];exact full_all.1
theorem fullM_mem {m:Mt} (h:m∈fullM):m.n=0∧m.d=1:=by rw [full_btw] at h;exact full_all.2 m h
def fullR:Rp:=⟨0,0,0,0,0,fullM⟩
theorem fullR_chk:rchk fullR=0:=rchk_m (btw_good full_chk _ _ _ _)
theorem fm_len:∀ {l:List Mt},(∀ m∈l,(mText m).length≤45)→(l.flatMap fun m=>32::mText m).length≤46*l.length
 | [],_=>Nat.zero_le _
 | m::l,h=>by
  have h1:=h m (List.mem_cons_self ..)
  have h2:=fm_len (l:=l) fun x hx=>h x (List.mem_cons_of_mem _ hx)
  rw [List.flatMap_cons,List.length_append,List.length_cons,List.length_cons]
  omega
theorem fullR_len:(rText fullR).length≤110000:=by
 have hne:fullR.ms≠[]:=fun e=>by have:=congrArg List.length e;rw [show fullR.ms.length=2016 from fullM_len] at this;cases this
 have hw:rWords fullR=wMeet::fullM.flatMap mWords:=by
  unfold rWords
  rw [if_neg (fun h=>h rfl),if_pos hne]
  rfl
 have hg:mtR fullM=true:=btw_good full_chk _ _ _ _
 have hm:∀ m∈fullM,(mText m).length≤45:=fun m hm=>by
  obtain ⟨c1,c2,c3,c4⟩:=mOk_i.1 (mRun_ok (by unfold mtR at hg;simp only [Bool.and_eq_true] at hg;exact hg.1) m hm)
  obtain ⟨a,b⟩:=fullM_mem hm
  have l1:=itoa_21 (n:=m.i) (by omega) (by omega)
  have l2:=itoa_21 (n:=m.j) (by omega) (by omega)
  rw [mText_is,a,b]
  have e:(numV 0 1).1.length=1:=by kernel_rfl
  simp only [List.length_append,List.length_cons,List.length_nil]
  omega
 have h:=fm_len hm
 rw [fullM_len] at h
 unfold rText
 rw [hw,joinS_words,List.length_append]
 have:wMeet.length=8:=rfl
 omega
theorem fullR_back:replyV fullR=(rText fullR,0)∧rreadP (rText fullR)=(fullR,0) :=
 reply_back fullR_chk (rin_of fullR_chk (by decide) fun m hm=>by obtain ⟨a,b⟩:=fullM_mem hm;omega) fullR_len
theorem full_do:doV ⟨-1,1,fullL⟩ ⟨4,⟨0,0,0⟩,0,0,1⟩=(⟨0,1,fullL⟩,fullR,0):=by
 unfold doV
 rw [if_pos full_mchk1]
 have:askV ⟨-1,1,fullL⟩ ⟨4,⟨0,0,0⟩,0,0,1⟩=(⟨0,1,fullL⟩,fullR):=by
  unfold askV
  rw [if_pos (by decide),if_neg (by decide),if_neg (by decide),if_neg (by decide),if_pos rfl,if_pos (by decide),if_neg (by decide)]
  rfl
 rw [this]
theorem fullDo_fn:FnOK Tryz.prog 18 [.agg [i64 (-1),i64 1,pts fullL],.agg [u8 4,i64 0,i64 0,i64 0,i64 0,i64 0,i64 1]] (.tup [.agg [i64 0,i64 1,pts fullL],.agg [i64 0,i64 0,i64 0,i64 0,i64 0,mts fullM],.one (i64 0)]):=by
 have H:=oDo_fn ⟨-1,1,fullL⟩ ⟨4,⟨0,0,0⟩,0,0,1⟩
 rw [full_do] at H
 exact H
theorem fullReply_fn:FnOK Tryz.prog 10 [.agg [i64 0,i64 0,i64 0,i64 0,i64 0,mts fullM]] (.tup [.one (str (rText fullR)),.one (i64 0)]):=by
 have H:=tReply_fn fullR (by rw [show fullR.ms.length=2016 from fullM_len];decide)
 rw [fullR_back.1] at H
 exact H
theorem fullRead_fn:FnOK Tryz.prog 15 [.one (str (rText fullR))] (.tup [.agg [i64 0,i64 0,i64 0,i64 0,i64 0,mts fullM],.one (i64 0)]):=by
 have H:=tReadReply_fn (rText fullR) (by have:=fullR_len;omega)
 rw [fullR_back.2] at H
 exact H
theorem fullSame_fn:FnOK Tryz.prog 19 [.agg [i64 0,i64 0,i64 0,i64 0,i64 0,mts fullM],.agg [i64 0,i64 0,i64 0,i64 0,i64 0,mts fullM]] (.c (.one (bol true))):=by
 have H:=roSame_fn fullR fullR
 simp only [decide_true] at H
 exact H
theorem fullStand_fn:FnOK Tryz.prog 17 [.agg [i64 0,i64 1,pts fullL]] (.tup [.one (str (stT ⟨0,1,fullL⟩)),.one (i64 0)]):=by
 have H:=tStanding_fn ⟨0,1,fullL⟩
 rw [(stand_back full_mchk).1] at H
 exact H
theorem fullReadS_fn:FnOK Tryz.prog 16 [.one (str (stT ⟨0,1,fullL⟩))] (.tup [.agg [i64 0,i64 1,pts fullL],.one (i64 0)]):=by
 have H:=tReadStanding_fn (stT ⟨0,1,fullL⟩) (by have:=stT_len full_mchk;omega)
 rw [(stand_back full_mchk).2] at H
 exact H
theorem fullSameM_fn:FnOK Tryz.prog 20 [.agg [i64 0,i64 1,pts fullL],.agg [i64 0,i64 1,pts fullL]] (.c (.one (bol true))):=by
 have H:=roSameM_fn ⟨0,1,fullL⟩ ⟨0,1,fullL⟩
 simp only [decide_true] at H
 exact H
theorem noStand_fn:FnOK Tryz.prog 17 [.agg [i64 0,i64 0,.list 3 []]] (.tup [.one (str []),.one (i64 8)]):=by
 have H:=tStanding_fn ⟨0,0,[]⟩
 rw [show standV ⟨0,0,[]⟩=([],8) by unfold standV;exact if_neg (by decide)] at H
 exact H
end Go.Proofs.YtfkfficabeclcaaGreatDoor

namespace Go.Proofs.YtfkfficabeclcaaGreatDoor
open Go Go.RowKit Go.Sort Sx
open Go.Lib hiding intOf
set_option maxRecDepth 2000
set_option maxRecDepth 100000 in
set_option maxHeartbeats 8000000 in
theorem LTNames_fn:FnOK Tryz.prog 3 [] (.c (.one (bol true))):=by
 have A:=TLalive_fn
 have a0:=TLat_fn 0
 have a1:=TLat_fn 1
 have a2:=TLat_fn 2
 have am1:=TLat_fn (-1)
 have am3:=TLat_fn (-3)
 have am5:=TLat_fn (-5)
 have R0:=rl0
 have R1:=rl1
 have R2:=rl2
 have R3:=rl3
 have R4:=rl4
 have R5:=rl5
 have R6:=rl6
 have R7:=rl7
 have hbl:badsD.length=24:=by kernel_rfl
 refine fn_ok (by kernel_rfl) (ty_okK [319] [] [] []) Tryz.func3 rfl (fun _ _=>Tryz.call3 _ _) rfl ?_
 intro hw
 clear hw
 repeat' ((conv=>whnf);first|(with_reducible first|refine br_t ?_|refine br_f ?_|refine za ?_|refine zg ?_|refine zo ?_)|refine zp ?_|refine zq ?_|(with_reducible first|refine bc (fun h => ?_) (fun h => ?_)|refine zt ?_|refine zf ?_|refine br_i (fun h => ?_) (fun h => ?_))|refine zg ?_|refine zi ?_|refine zb ?_|refine zl ?_)
 all_goals conv=>whnf
 clear R0 R1 R2 R3 R4 R5 R6 R7 am3 am5
 refine loop_J (by kernel_rfl) (ty_okK [319] [] [] []) (σ:=Nat) (fun i=>[(2,sD (.list 6 badsD)),(3,sV (.int .i64 (i:Nat)))]) (fun _=>[]) (fun i=>i≤24) (fun i=>24-i) 0 (Nat.zero_le _) ?_ ?_
 ·(conv=>whnf);exact zent
 intro i hi
 rcases Nat.lt_or_ge i 24 with hlt|hge
 ·obtain ⟨r,hel,hb,hml⟩:=badsD_get hlt
  have C1:=tReply_fn r hml
  rw [show replyV r=([],8) from if_neg (by omega)] at C1
  have C2:=tCheck_fn r hml
  rw [hb] at C2
  clear hb A a0 a1 a2 am1
  obtain ⟨e,ri,rj,n,d,ms⟩:=r
  simp only [Rp.dc,Rp.c,retS,ret1] at *
  generalize badsD=B at *
  repeat' ((conv=>whnf);first|(with_reducible first|refine br_t ?_|refine br_f ?_|refine za ?_|refine zg ?_|refine zo ?_)|refine zp ?_|refine zq ?_|(with_reducible first|refine bc (fun h => ?_) (fun h => ?_)|refine zt ?_|refine zf ?_|refine br_i (fun h => ?_) (fun h => ?_))|refine zg ?_|refine zi ?_|refine zb ?_|refine zl ?_)
  all_goals conv=>whnf
  refine ⟨i+1,by omega,?_,by omega⟩
  (conv=>whnf);exact zent
 ·obtain rfl:i=24:=by omega
  have N0:=nl0
  have N1:=nl1
  have N2:=nl2
  have N3:=nl3
  have N4:=nl4
  have N5:=nl5
  have N6:=nl6
  have N7:=nl7
  have N8:=nl8
  have N9:=nl9
  have N10:=nl10
  have N11:=nl11
  have N12:=nl12
  have N13:=nl13
  have N14:=nl14
  have N15:=nl15
  have N16:=nl16
  have N17:=nl17
  have N18:=nl18
  have N19:=nl19
  have N20:=nl20
  have S0:=sl0
  have S1:=sl1
  have S2:=sl2
  have F0:=fl0
  have F1:=fl1
  have F2:=fl2
  have F3:=fl3
  have F4:=fl4
  have F5:=fl5
  have F6:=fl6
  have F7:=fl7
  have F8:=fl8
  have F9:=fl9
  have F10:=fl10
  have F11:=fl11
  have F12:=fl12
  have F13:=fl13
  have F14:=fl14
  have F15:=fl15
  have nb:=nbig
  have fb:=fbig
  have ns:=noStand_fn
  simp only [retRp,retMe,Rp.dc,Md.dc,rp0,mts,pts,List.map_nil] at nb fb
  clear hi hge
  generalize badsD=B at *
  repeat' ((conv=>whnf);first|(with_reducible first|refine br_t ?_|refine br_f ?_|refine za ?_|refine zg ?_|refine zo ?_)|refine zsz ?_|refine zp ?_|refine zq ?_|(with_reducible first|refine bc (fun h => ?_) (fun h => ?_)|refine zt ?_|refine zf ?_|refine br_i (fun h => ?_) (fun h => ?_))|refine zg ?_|refine zi ?_|refine zb ?_|refine zl ?_)
  all_goals conv=>whnf
  clear nb fb ns N0 N1 N2 N3 N4 N5 N6 N7 N8 N9 N10 N11 N12 N13 N14 N15 N16 N17 N18 N19 N20 S0 S1 S2 F0 F1 F2 F3 F4 F5 F6 F7 F8 F9 F10 F11 F12 F13 F14 F15
  refine loop_frz [100] ?_
  refine loop_nameH 18 2 100 rfl rfl rfl ?_
  refine loop_J (by kernel_rfl) (ty_okK [319] [] [] []) (σ:=Nat) (fun i=>[(19,sV (.int .i64 (i:Nat)))]) (fun i=>[(18,.own [.d (i64 0),.d (i64 1),.osl 100 0]),(100,.row 3 ((fullN i).map Pt.c) 0)]) (fun i=>i≤64) (fun i=>64-i) 0 (Nat.zero_le _) ?_ ?_
  ·(conv=>whnf);exact zent
  intro i hi
  have hli:((fullN i).map Pt.c).length=i:=by rw [List.length_map,fullN_len]
  rcases Nat.lt_or_ge i 64 with hlt|hge
  ·have hli2:((fullN i).map Pt.c++[[i64 (IntKind.i64.wrap (65472+(i:Int))),i64 0,i64 i]]).length≤1000000:=by rw [List.length_append,hli];simp only [List.length_cons,List.length_nil];omega
   have he:(fullN i).map Pt.c++[[i64 (IntKind.i64.wrap (65472+(i:Int))),i64 0,i64 i]]=(fullN (i+1)).map Pt.c:=by rw [IntWalk.i64_in _ (by omega),fullN_succ,List.map_append];rfl
   repeat' ((conv=>whnf);first|(with_reducible first|refine br_t ?_|refine br_f ?_|refine za ?_|refine zg ?_|refine zo ?_)|(rw [hli];omega)|refine zp ?_|refine zq ?_|(with_reducible first|refine bc (fun h => ?_) (fun h => ?_)|refine zt ?_|refine zf ?_|refine br_i (fun h => ?_) (fun h => ?_))|refine zg ?_|refine zi ?_|refine zb ?_|refine zl ?_)
   all_goals conv=>whnf
   refine ⟨i+1,hlt,?_,by omega⟩
   (conv=>whnf);refine ⟨by repeat' (first|with_reducible exact zE0|with_reducible refine zE1 ?_ ?_|rfl|assumption|((exact congrArg (fun x=>some (Blk.row 3 x 0)) he))|exact zi1|exact zb1),by repeat' (first|with_reducible exact zH0|with_reducible refine zH1 ?_ ?_|rfl|assumption|((exact congrArg (fun x=>some (Blk.row 3 x 0)) he))),rfl⟩
  ·obtain rfl:i=64:=by omega
   have hM:(fullM.map Mt.c).length=2016:=by rw [List.length_map,fullM_len]
   have D1:=fullDo_fn
   have D2:=fullReply_fn
   have D3:=fullRead_fn
   have D4:=fullSame_fn
   have D5:=fullStand_fn
   have D6:=fullReadS_fn
   have D7:=fullSameM_fn
   unfold fullL at D1 D5 D6 D7
   generalize rText fullR=T1 at *
   generalize stT ⟨0,1,fullN 64⟩=T2 at *
   simp only [pts,mts] at D1 D2 D3 D4 D5 D6 D7
   generalize fullM.map Mt.c=MM at *
   clear hi hge
   generalize (fullN 64).map Pt.c=FL at *
   exact zw
end Go.Proofs.YtfkfficabeclcaaGreatDoor

namespace Go.Proofs.YtfkfficabeclcaaGreatDoor
open Go Go.RowKit Go.ChangeShapes Go.WideShapes Go.ChangeAt Sx
theorem reportNames_own:ownKnob Tryz.prog.godebug=none:=by kernel_rfl
set_option maxRecDepth 100000 in
theorem reportNames_wit (os:Os) {H:Type} (enc:TypeId × Value→H) :
  (OpenSpec.ofChange Rows.reportNamesSpec).preRow enc Tryz.prog Tryz.f3 Rows.reportNamesRow.domain false Rows.reportNamesRow.laid ((laidWorld os).forCall (fun _ _=>0) ⟨#[],#[],[]⟩).memory #[]:=by
 have hw:(DataW.whole enc Tryz.prog ((laidWorld os).forCall (fun _ _=>0) ⟨#[],#[],[]⟩).memory Tryz.f3.params.toList (OpenSpec.ofChange Rows.reportNamesSpec).vars false (#[]:Array Value).toList 8).map (fun x=>(x.1,x.2.1)) =
   some ([],[]):=by kernel_rfl
 obtain ⟨⟨x1,x2,x3⟩,hx,hx1⟩:=Option.map_eq_some_iff.1 hw
 simp only [Prod.mk.injEq] at hx1
 obtain ⟨rfl,rfl⟩:=hx1
 exact OpenSpec.preRow_of_cond 8 hx (by kernel_rfl) (fun k hk=>by cases hk) (by kernel_rfl) (laid_met os _)
set_option maxRecDepth 100000 in
theorem reportNames_lifted (os:Os) (started:os.Started) (H:Type) (enc:TypeId × Value→H) (F:Stop.Interp) :
  ReturnsInHanded {} Tryz.checked os 3 .any ((OpenSpec.ofChange Rows.reportNamesSpec).preRow enc Tryz.prog Tryz.f3 Rows.reportNamesRow.domain false Rows.reportNamesRow.laid) (((OpenSpec.ofChange Rows.reportNamesSpec).at F).post enc Tryz.prog Tryz.f3 false true false false):=by
 refine returnsInHanded_of_row (C:=Tryz.checked) (s:=OpenSpec.ofChange Rows.reportNamesSpec) reportNames_own started (by kernel_rfl) Tryz.func3
  (witness_row_at (enc:=enc) (C:=Tryz.checked) false (laidWorld os) #[] rfl (by kernel_rfl) (by kernel_rfl) (by kernel_rfl) (reportNames_wit os enc)) ?_
 intro W base args ds gs before hval0 hW _ _ _ hL hsh _
 have hgd:=gd_of hL hsh
 have hval:∀ (j:Nat) t v,Tryz.f3.params[j]? = some t→args[j]? = some v→Value.okWide Tryz.prog W .any base t v:=hval0
 have hW':=hW
 obtain ⟨p,q,hA0,hV,rfl,hfz,hnd⟩:=hW
 have hA:DataW.TrodAll enc Tryz.prog W 0 (fun _=>true) true Tryz.f3.params.toList args.toList ds p:=hA0
 rw [Tryz.params3] at hA hval
 obtain ⟨rfl,rfl,rfl⟩:=trodAll_none hA
 refine (law_of_fn (vs:=[]) (fun _ _=>Tryz.call3 _ _) (LTNames_fn) hgd trivial).mono fun e W' ⟨he,hb⟩ => ?_
 subst he
 exact ⟨_,rfl,law_post (s:=Rows.reportNamesSpec) (by kernel_rfl) (by kernel_rfl) rfl Tryz.underlying4 rfl hW' ⟨rfl,rfl,rfl⟩ hb⟩
theorem reportNames_and {a b:Bool} (h:a=true) (k:b=true):(a && b)=true:=by rw [h,k];rfl
theorem reportNames_c0:(Rows.reportNamesRow.inPlace == Tryz.prog.inPlace 3)=true:=by kernel_rfl
theorem reportNames_c1:(Rows.reportNamesRow.unfollowed == Tryz.prog.unfollowed 3)=true:=by kernel_rfl
theorem reportNames_c2:(Rows.reportNamesRow.recurses == Tryz.prog.recurses 3)=true:=by kernel_rfl
theorem reportNames_c3:(Rows.reportNamesRow.named == Tryz.prog.varsNamed 3)=true:=by kernel_rfl
theorem reportNames_c4:(Rows.reportNamesRow.loops == (Tryz.f3.params.toList++(OpenSpec.ofChange Rows.reportNamesSpec).bare.plain.varTypes Tryz.prog).any (Tryz.prog.loopsFrom ·))=true:=by kernel_rfl
theorem reportNames_c5:laidOutB Tryz.prog=true:=by kernel_rfl
theorem reportNames_c6:mapsRowed Tryz.prog=true:=by kernel_rfl
theorem reportNames_c7:Tryz.prog.stopsHeard=true:=by kernel_rfl
theorem reportNames_c8:Tryz.prog.mayEnter=true:=by kernel_rfl
theorem reportNames_facts:joinedFacts Tryz.prog 3 Tryz.f3 (OpenSpec.ofChange Rows.reportNamesSpec).bare Rows.reportNamesRow=true:=by
 unfold joinedFacts
 repeat' (with_reducible refine reportNames_and ?_ ?_)
 all_goals first|with_reducible exact reportNames_c0|with_reducible exact reportNames_c1|with_reducible exact reportNames_c2|with_reducible exact reportNames_c3|with_reducible exact reportNames_c4|with_reducible exact reportNames_c5|with_reducible exact reportNames_c6|with_reducible exact reportNames_c7|with_reducible exact reportNames_c8|kernel_rfl
theorem reportNames_over:Rows.reportNamesRow.holds Tryz.pinned (OpenSpec.ofChange Rows.reportNamesSpec) :=
 OpenClaim.holds_of_cond 3 Tryz.f3 rfl rfl rfl rfl rfl rfl rfl ⟨rfl,rfl,rfl,rfl,rfl⟩ rfl rfl rfl rfl rfl (by kernel_rfl) Tryz.func3 reportNames_facts
  (of_decide_eq_true (by kernel_rfl)) (by unfold Func.isWrapper;rw [if_neg (of_decide_eq_false (by kernel_rfl))];exact ⟨rfl,rfl⟩)
  (fun os started H enc _ F0=>by rw [OpenClaim.pre_eq_preRow];exact reportNames_lifted os started H enc F0)
theorem reportNames_params:(Tryz.f3.params.toList.all fun t => !Tryz.prog.wantsStandIn t)=true:=by kernel_rfl
theorem reportNames_proved:Rows.ReportNamesCardSaid :=
 Claim7.holds_tied_plain_at .later [] Rows.reportNamesCard.laidKinds true Rows.reportNamesCard.stood.harness Rows.reportNamesCard.stood.looks
  reportNames_over (fun _ h=>by cases h) (by kernel_rfl) (fun _ h=>by cases h) reportNames_row_tie rfl ⟨rfl,rfl⟩ (by kernel_rfl) rfl
  (fun f fn hf hfn=>by
   obtain rfl:f=3:=Option.some.inj (hf.symm.trans (show Tryz.prog.funcNamed "peloton/pelotonlaw45.ReportNames" = some 3 by kernel_rfl))
   obtain rfl:fn=Tryz.f3:=(Option.some.inj (Tryz.func3.symm.trans hfn)).symm
   exact ⟨by kernel_rfl,fun j t ht=>by
    have hm:t∈Tryz.f3.params.toList:=by rw [Array.mem_toList_iff];exact Array.mem_of_getElem? ht
    exact (by simpa using List.all_eq_true.1 reportNames_params t hm:Tryz.prog.wantsStandIn t=false)⟩)
  (by kernel_rfl)
#print axioms reportNames_proved
end Go.Proofs.YtfkfficabeclcaaGreatDoor
