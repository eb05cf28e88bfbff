/-
  No statement is proved here.
-/
import Derived.Test.YtnbfhdgojmflhaaJLgk
import Derived.Test.YtnbfhdgojmflhaaJOrl
import Derived.Deep.CutRange
import Derived.Lib.MinMax
namespace Go.Proofs.Ytnbfhdgojmflhaa
open Go.RowKit
theorem zrnW {turn:Int} {f:Nat} {page:Bytes} {off:Nat} {rest:Bytes} {fst:Int} (h:rest=[]\/512<=off):fillM turn f page off rest fst=(page,rest,fst):=by
 cases f with
 | zero=>rfl
 | succ f=>unfold fillM;rw [if_pos h]
theorem zA2o {turn:Int} {f:Nat} {page:Bytes} {off:Nat} {rest:Bytes} {fst:Int} (h:rest≠[]) (h2:off < 512):fillM turn (f+1) page off rest fst =
  fillM turn f (page.take off ++ ((z7b5 fst.toNat turn.toNat (min rest.length 51) ++ rest.take 51) ++ page.drop (off+(z7b5 fst.toNat turn.toNat (min rest.length 51) ++ rest.take 51).length))) (off+64) (rest.drop 51) (fst+51):=by
 rw [fillM,if_neg (by rintro (h3 | h3);exact h h3;omega)]
theorem zTDn {l m:Bytes} {i:Nat} (h:i+m.length<=l.length):ovL l i m=l.take i ++ (m ++ l.drop (i+m.length)):=by
 unfold ovL
 rw [List.take_of_length_le (by omega:m.length<=l.length - i),List.append_assoc]
theorem zjZm {l:Bytes} {off:Nat} (h:off<=l.length):ovL l off (zeros (l.length - off))=l.take off ++ zeros (l.length - off):=by
 rw [zTDn (by rw [zrlC];omega),zrlC,show off+(l.length - off)=l.length by omega,List.drop_length,List.append_nil]
theorem zdxG (turn:Int):∀ (f:Nat) (page:Bytes) (off:Nat) (rest:Bytes) (fst:Int),(fillM turn f page off rest fst).2.1.length<=rest.length
 | 0,_,_,rest,_=>Nat.le_refl _
 | f+1,page,off,rest,fst=>by
  by_cases h:rest=[]\/512<=off
  ·rw [zrnW h]
   exact Nat.le_refl _
  ·rw [zA2o (fun h1=>h (.inl h1)) (by omega)]
   exact Nat.le_trans (zdxG turn f _ _ _ _) (by rw [List.length_drop];omega)
theorem zc9F {turn:Int} {f:Nat} {page:Bytes} {off:Nat} {rest:Bytes} {fst:Int} (h:rest≠[]) (h2:off < 512):(fillM turn (f+1) page off rest fst).2.1.length < rest.length:=by
 rw [zA2o h h2]
 have h3:=zdxG turn f (page.take off ++ ((z7b5 fst.toNat turn.toNat (min rest.length 51) ++ rest.take 51) ++ page.drop (off+(z7b5 fst.toNat turn.toNat (min rest.length 51) ++ rest.take 51).length))) (off+64) (rest.drop 51) (fst+51)
 have h4:0 < rest.length:=List.length_pos_iff.2 h
 rw [List.length_drop] at h3
 omega
theorem zqcD (a b c:Nat):(z7b5 a b c).length=13:=by simp [z7b5,zmTu]
def VwB (w:World) (tv:Value) (A:Option Addr) (n c:Nat) (l:Bytes):Prop:=RdB w A l/\l.length=n/\n<=c/\c<=9223372036854775807/\(Value.slice A n c).ownBlock=tv.ownBlock
theorem VwB.keep {S:Nat->Prop} {w w':World} {tv:Value} {A:Option Addr} {n c:Nat} {l:Bytes} (h:VwB w tv A n c l) (hk:Kept S w w') (hn:∀ x,tv.ownBlock=some x->¬ S x):VwB w' tv A n c l:=
 ⟨h.1.kept hk (fun b off e _=>hn b (by rw [<- h.2.2.2.2,e];rfl)),h.2⟩
theorem VwB.drop {w:World} {tv:Value} {A:Option Addr} {n c:Nat} {l:Bytes} (h:VwB w tv A n c l) (k:Nat) (hk:k<=n):VwB w tv (slA A k c) (n - k) (c - k) (l.drop k):=by
 obtain ⟨h1,h2,h3,h4,h5⟩:=h
 exact ⟨h1.sl k c (by omega),by rw [List.length_drop,h2],by omega,by omega,zgGZ.trans h5⟩
theorem zVN9 {first count turn:Int} {f:Nat} {D:DevM} {rest:Bytes} {fst:Int} (h:rest≠[]):pourM first count turn (f+1) D rest fst =
  if D.mayE (secB first count fst)≠0 then (D,D.mayE (secB first count fst)) else
  if (D.write (secB first count fst) (fillM turn 8 ((D.latest (secB first count fst)).take (secO count fst).toNat ++ zeros (512 - (secO count fst).toNat)) (secO count fst).toNat rest fst).1).1≠0 then
   ((D.write (secB first count fst) (fillM turn 8 ((D.latest (secB first count fst)).take (secO count fst).toNat ++ zeros (512 - (secO count fst).toNat)) (secO count fst).toNat rest fst).1).2,
   (D.write (secB first count fst) (fillM turn 8 ((D.latest (secB first count fst)).take (secO count fst).toNat ++ zeros (512 - (secO count fst).toNat)) (secO count fst).toNat rest fst).1).1)
  else pourM first count turn f (D.write (secB first count fst) (fillM turn 8 ((D.latest (secB first count fst)).take (secO count fst).toNat ++ zeros (512 - (secO count fst).toNat)) (secO count fst).toNat rest fst).1).2
   (fillM turn 8 ((D.latest (secB first count fst)).take (secO count fst).toNat ++ zeros (512 - (secO count fst).toNat)) (secO count fst).toNat rest fst).2.1
   (fillM turn 8 ((D.latest (secB first count fst)).take (secO count fst).toNat ++ zeros (512 - (secO count fst).toNat)) (secO count fst).toNat rest fst).2.2:=by
 rw [pourM,if_neg h]
theorem zJ2j {first count turn:Int} {f:Nat} {D:DevM} {fst:Int}:pourM first count turn f D [] fst=(D,0):=by
 cases f with
 | zero=>rfl
 | succ f=>unfold pourM;rw [if_pos rfl]
theorem zsaM {w:World} {ops:Array Oper} {rest:List Oper} {o:Oper} {a:Act} {Q:Exit->Act->World->Prop} (hgd:o.guard=none) (x:Operand)
  (ho:o.op=.call { callee:=.builtin .min,args:=#[x,.const (.int .i64 51)],argTypes:=#[3,3] }) (n m:Nat) (hm:m=min n 51) (hx:a.eval x=.int .i64 n) (hc:a.eval (.const (.int .i64 51))=.int .i64 51)
  (k:wpList Try.prog ops Q rest (a.put o.dst (.int .i64 m)) w):wpList Try.prog ops Q (o :: rest) a w:=by
 refine wpList_plain hgd fun K hK=>?_
 unfold Oper.wp
 have e:(if (51:Int) < (n:Int) then (51:Int) else (n:Int))=(m:Int):=by split<;>omega
 simp [execOp,ho,resolve,invoke,builtin,hx,hc]
 rw [run_min_int2,e]
 exact hK _ _ k
theorem RdB.slH {w:World} {A:Option Addr} {l:Bytes} (h:RdB w A l) (c m:Nat) (hc:l.length<=c):RdB w (slA A 0 c) (l.take m):=by
 have:=(h.sl 0 c hc).takeG m
 rwa [List.drop_zero] at this
theorem zQzm (l:Bytes) (n:Nat):l.drop (min l.length n)=l.drop n:=by
 rcases Nat.le_total l.length n with h | h
 ·rw [Nat.min_eq_left h,List.drop_length,List.drop_eq_nil_of_le h]
 ·rw [Nat.min_eq_right h]
theorem zIeg {Q:Exit->Act->World->Prop} {E:Prop} {K:Act->World->Prop} {ops:Array Oper} {a:Act} {w:World} {o:Oper} (hg:o.guard=none) (l c:Operand) (ho:o.op=.makeSlice 37 l c)
  (kl kc:IntKind) (n m:Nat) (hl:a.eval l=.int kl n) (hc:a.eval c=.int kc m) (hnm:n<=m) (hm:m<=281474976710656)
  (k:∀ g w',w.heap.size<=g->g < w'.heap.size->w'.heap[g]?=some (.cells (cellsOf (zeros m)) 5 (0,0))->Kept (fun _=>False) w w'->K (a.put o.dst (.slice (some ⟨g,0,none⟩) n m)) w'):if Region.wanted o (yielded ops a.tmps)=true then Oper.wp Try.prog o a w K Q else E:=by
 rw [if_pos (by simp [Region.wanted,hg])]
 obtain ⟨i,hi,h2,h3,h4⟩:=info_parts info5
 have hr:=run_make (P:=Try.prog) w 37 5 i _ Try.underlying37 hi h2 kl kc (n:Int) (m:Int) (by omega) (by omega) (by rw [h4];omega) (by omega)
 simp only [Int.toNat_natCast,h3,Nat.mul_one] at hr
 rw [show (Value.int IntKind.u8 0).cells=#[Value.int .u8 0] from rfl,zMBr] at hr
 have hk:=k w.heap.size (w.alloc (.cells (cellsOf (zeros m)) 5)) (Nat.le_refl _) (by simp) (heap_alloc_new w _) ((Kept.refl _ w).alloc _)
 unfold Oper.wp
 simp only [execOp,ho,hl,hc,Sem.run_bind,hr,Result.andThen_ok]
 exact hk
theorem LogS.dev2 {S:Nat->Prop} {w w':World} {q p ms mo:Nat} {lv tv:Value} {L:LogM} {D D':DevM} (h:LogS w q p ms mo lv tv L D) (hk:Kept S w w') (hS:∀ x,S x->x=p\/x=ms\/x=mo) (hd:DevAt w' p ms mo D'):LogS w' q p ms mo lv tv L D':=
 ⟨hd,hk.heap h.hq (fun e=>by rcases hS _ e with e | e | e;exact h.nq.1 e.symm;exact h.nq.2.1 e.symm;exact h.nq.2.2 e.symm),
  h.hl.keep hk (fun x hx e=>by have:=h.nl x hx;rcases hS _ e with e | e | e;exact this.2.1 e;exact this.2.2.1 e;exact this.2.2.2.1 e),
  h.ht.keep hk (fun x hx e=>by have:=h.nt x hx;rcases hS _ e with e | e | e;exact this.2.1 e;exact this.2.2.1 e;exact this.2.2.2 e),h.nq,h.nl,h.nt⟩
def LogM.forceEnd (L:LogM) (D:DevM):LogM×DevM×Int:=
 let y:=if secO L.count L.fin=0/\secF L.fin=L.fin then D.write (secB L.first L.count L.fin) (zeros 512) else (0,D)
 if y.1≠0 then (L,y.2,y.1) else
 let z:=y.2.syncR
 if z.1≠0 then (L,z.2,z.1) else
 ({ L with safe:=L.fin,beg:=L.beg+(L.tail.length / 51*51:Nat),tail:=L.tail.drop (L.tail.length / 51*51) },z.2,0)
def zVAR (w:World) (q p ms mo:Nat) (lv tv:Value) (x:LogM×DevM×Int) (e:Ending) (w':World):Prop:=e=.returned (.int .i64 x.2.2) /\
 ∃ tv',LogS w' q p ms mo lv tv' x.1 x.2.1/\Kept (fun x=>x=q\/x=p\/x=ms\/x=mo) w w'/\(tv'=tv\/∀ x,tv'.ownBlock=some x->w.heap.size<=x)
set_option maxRecDepth 100000 in
set_option maxHeartbeats 3200000 in
theorem zx6X (w:World) (q p ms mo:Nat) (lv tv:Value) (L:LogM) (D:DevM) (h:LogS w q p ms mo lv tv L D) (hok:LogOk L) (hb:LogB L) (t0:0<=L.turn) (t1:L.turn<=5000000000) (hs:L.safe≠L.fin->L.tail≠[]) :
  Calls Try.prog 25 #[.pointer (some ⟨q,0,none⟩)] w (zVAR w q p ms mo lv tv (L.force D)):=by
 have H:=qh h
 have HOK:=qh hok
 have HBB:=qh hb
 have s0:1<=L.fin:=by have:=hok.o0;have:=hok.o1;omega
 have s1:=hok.e1
 have c5:w.cell? ⟨q,5,none⟩=some (.int .i64 L.fin):=zcjX h.hq rfl
 have c6:w.cell? ⟨q,6,none⟩=some (.int .i64 L.safe):=zcjX h.hq rfl
 have HTH:=qh (zATj w q p lv tv L h.hq)
 by_cases hsf:L.safe=L.fin
 ·have hv:L.force D=(L,D,0):=by unfold LogM.force;rw [if_pos hsf]
  have HV:=qh hv
  obtain ⟨FI,hFI⟩:∃ FI,FI=L.fin:=⟨_,rfl⟩
  rw [hsf,<- hFI] at c6
  rw [<- hFI] at c5
  clear h hok hb hs hsf hv hFI s0 s1
  go_enter Try.func25,Try.ntmps25
  go_wp2_with fail
  refine HTH.out.mono ?_
  rintro e wx ⟨rfl,rfl⟩
  go_wp2_with fail
  go_quiet (fail)
  go_wp2
  go_ret
  unfold zVAR
  rw [HV.out]
  exact ⟨rfl,tv,H.out.keep ((Kept.refl (fun _=>False) w).drewN _) (fun _ _=>id),((Kept.refl (fun _=>False) w).drewN _).mono (fun _ _ h=>h.elim),.inl rfl⟩
 ·have hsb:(L.safe == L.fin)=false:=by simpa using hsf
  obtain ⟨X,hX⟩:∃ X:DevM×Int,X=pourM L.first L.count L.turn (L.tail.length+1) D L.tail L.beg:=⟨_,rfl⟩
  have hv:L.force D=if X.2≠0 then (L,X.1,X.2) else L.forceEnd X.1:=by unfold LogM.force;rw [if_neg hsf,<- hX];rfl
  obtain ⟨R,hR⟩:∃ R,R=L.force D:=⟨_,rfl⟩
  rw [<- hR] at hv ⊢
  have HV:=qh hv
  have HX:=qh hX.symm
  have HTN:=qh (hs hsf)
  have HFE:=qh hb.fe
  have b0:=hb.b0
  have c8:w.cell? ⟨q,8,none⟩=some tv:=zcjX h.hq rfl
  have c9:w.cell? ⟨q,9,none⟩=some (.int .i64 L.beg):=zcjX h.hq rfl
  obtain ⟨BE,hBE⟩:∃ BE,BE=L.fin:=⟨_,rfl⟩
  have HBE:=qh hBE
  have hbe:BE<=3000000000000000000:=by omega
  obtain ⟨At,nt,ct,htv,hnt⟩:=h.ht.parts
  have hct:=(htv▸h.ht:OwnV w 0 (.slice At nt ct) L.tail).capM
  have hlt:=((htv▸h.ht:OwnV w 0 (.slice At nt ct) L.tail).len).2
  have HTV:=qh htv
  have HNT:=qh hnt
  have VW:=qh (show VwB w tv At nt ct L.tail from ⟨OwnV.rd (htv▸h.ht),hnt,by omega,hct,by rw [htv]⟩)
  rw [htv] at c8
  clear h hok hb hs hsf hX hv hR s0 s1 htv hnt hct hlt hBE
  go_enter Try.func25,Try.ntmps25
  go_wp2_with fail
  refine HTH.out.mono ?_
  rintro e wx ⟨rfl,rfl⟩
  go_wp2_with fail
  go_quiet (fail)
  generalize hwd:w.drewN nq=wd
  have HWD:=qh (show Kept (fun _=>False) w wd from by rw [<- hwd];exact (Kept.refl (fun _=>False) w).drewN _)
  have HSd:=qh (H.out.keep HWD.out (fun _ _=>id))
  have c8d:wd.cell? ⟨q,8,none⟩=some (.slice At nt ct):=by rw [<- hwd];exact c8
  have c9d:wd.cell? ⟨q,9,none⟩=some (.int .i64 L.beg):=by rw [<- hwd];exact c9
  clear hwd
  go_wp2_with fail
  refine znCh 9 (fun w'=>wd.drew=w') (by kernel_rfl) rfl (fun hH=>?_)
  simp only [List.length_cons,List.length_nil,List.replicate]
  refine tK 0 ?_ (fun w' hw'=>?_) hH ?_
  rotate_left
  ·subst hw'
   go_simp<;>with_reducible rfl
  simp only [Act.put,oZa,oZb,oZc]
  refine tK 1 ?_ (fun w' hw'=>?_) hH ?_
  rotate_left
  ·subst hw'
   go_simp<;>with_reducible rfl
  simp only [Act.put,oZa,oZb,oZc]
  refine tK 2 ?_ (fun w' hw'=>?_) hH ?_
  rotate_left
  ·subst hw'
   go_simp<;>with_reducible rfl
  simp only [Act.put,oZa,oZb,oZc]
  refine tK 3 ?_ (fun w' hw'=>?_) hH ?_
  rotate_left
  ·subst hw'
   go_simp<;>with_reducible rfl
  simp only [Act.put,oZa,oZb,oZc]
  refine tK 4 ?_ (fun w' hw'=>?_) hH ?_
  rotate_left
  ·subst hw'
   go_simp<;>with_reducible rfl
  simp only [Act.put,oZa,oZb,oZc]
  refine tK 5 ?_ (fun w' hw'=>?_) hH ?_
  rotate_left
  ·subst hw'
   go_simp<;>with_reducible rfl
  simp only [Act.put,oZa,oZb,oZc]
  refine tK 6 ?_ (fun w' hw'=>?_) hH ?_
  rotate_left
  ·subst hw'
   go_simp<;>with_reducible rfl
  simp only [Act.put,oZa,oZb,oZc]
  refine tK 7 ?_ (fun w' hw'=>?_) hH ?_
  rotate_left
  ·subst hw'
   go_simp<;>with_reducible rfl
  simp only [Act.put,oZa,oZb,oZc]
  refine stepL 8 rfl (by kernel_rfl) (fun K hK=>?_)
  go_simp
  refine hK.out _ _ (fun _=>rfl) (fun _=>?_)
  simp only [oZa,oZb,oZc]
  clear hK K
  refine stepL 9 rfl (by kernel_rfl) (fun K hK=>?_)
  go_simp
  refine hK.out _ _ (fun _=>rfl) (fun _=>?_)
  simp only [oZa,oZb,oZc]
  clear hK K hH
  refine doneL (by kernel_rfl) ?_ _
  have HWE:=Lib.hid HWD.out.drew
  have HSe:=qh (HSd.out.keep ((Kept.refl (fun _=>False) wd).drew) (fun _ _=>id))
  generalize wd.drew=we at HWE HSe ⊢
  clear HWD HSd c8d c9d
  go_wp2_with fail
  go_loopw [3,4] (fun x y wr=>∃ (f:Nat) (D':DevM) (rest:Bytes) (fst:Int) (A:Option Addr) (n c:Nat),x=.slice A n c/\y=.int .i64 fst/\LogS wr q p ms mo lv tv L D'/\VwB wr tv A n c rest/\pourM L.first L.count L.turn f D' rest fst=X/\n < f/\(rest≠[]->fst+n=BE)/\1<=fst/\Kept (fun x=>x=p\/x=ms\/x=mo) w wr) (fun x y wr=>vlen x)
  case atStart=>exact ⟨L.tail.length+1,D,L.tail,L.beg,At,nt,ct,rfl,rfl,HSe.out,VW.out.keep HWE.out (fun _ _=>id),HX.out,by rw [HNT.out];omega,fun _=>by rw [HBE.out,HFE.out,HNT.out],b0,HWE.out.mono (fun _ _ h=>h.elim)⟩
  case round=>
   obtain ⟨f,D',rest,fst,A,n,c,rfl,rfl,hS,hV,hP,hnf,hfb,hf1,hK⟩:=hrel
   have HSr:=qh hS
   have HVr:=qh hV
   have HPr:=qh hP
   have HKr:=qh hK
   have HFB:=qh hfb
   have hn1:=hV.2.1
   have hn2:=hV.2.2.1
   have hn3:=hV.2.2.2.1
   clear hS hV hP hK hfb
   by_cases hr:rest=[]
   ·have h0:n=0:=by rw [<- hn1,hr];rfl
    subst h0
    have hx:X=(D',0):=by rw [<- HPr.out,hr];exact zJ2j
    have hv2:R=L.forceEnd D':=by rw [HV.out,hx,if_neg (by simp)]
    have HV2:=qh hv2
    clear hx hv2 hr hn1
    have s0:1<=L.fin:=by have:=HOK.out.o0;have:=HOK.out.o1;omega
    have s1:=HOK.out.e1
    have c5r:wr.cell? ⟨q,5,none⟩=some (.int .i64 L.fin):=zcjX HSr.out.hq rfl
    have HSEC:=qh (zdrd wr q p lv tv L HSr.out.hq HOK.out L.fin s0 (by omega))
    obtain ⟨O,hO⟩:∃ O,O=secO L.count L.fin:=⟨_,rfl⟩
    obtain ⟨B,hB⟩:∃ B,B=secB L.first L.count L.fin:=⟨_,rfl⟩
    obtain ⟨F,hF⟩:∃ F,F=secF L.fin:=⟨_,rfl⟩
    obtain ⟨Y,hY⟩:∃ Y:Int×DevM,Y=if O=0/\F=L.fin then D'.write B (zeros 512) else (0,D'):=⟨_,rfl⟩
    have hv3:R=if Y.1≠0 then (L,Y.2,Y.1) else if Y.2.syncR.1≠0 then (L,Y.2.syncR.2,Y.2.syncR.1) else
      ({ L with safe:=L.fin,beg:=L.beg+(L.tail.length / 51*51:Nat),tail:=L.tail.drop (L.tail.length / 51*51) },Y.2.syncR.2,0):=by
     rw [HV2.out,hY,hO,hB,hF];rfl
    have HV3:=qh hv3
    have HY:=qh hY
    rw [<- hO,<- hB,<- hF] at HSEC
    obtain ⟨FI,hFI⟩:∃ FI,FI=L.fin:=⟨_,rfl⟩
    have HFI:=qh hFI
    rw [<- hFI] at HSEC c5r HY
    clear hO hB hF hY hv3 hFI s0 s1
    go_wp2_with fail
    refine HSEC.out.mono ?_
    rintro e wx ⟨rfl,rfl⟩
    go_upto_region 21 with fail
    obtain ⟨bb,hbb⟩:∃ bb,bb=decide (O=0/\F=FI):=⟨_,rfl⟩
    have HBb:=qh hbb
    clear hbb
    go_cut [126] from 117 to 126 (fun v wx=>v=.bool bb/\wr=wx)
    case first=>
     by_cases h1:O=0
     ·by_cases h2:F=FI
      ·subst h1
       have h2b:(F == FI)=true:=by simpa using h2
       have H2:=qh (show Value.bool true=.bool bb from by rw [HBb.out,decide_eq_true ⟨rfl,h2⟩])
       clear h2
       go_wp2
       go_meet
       case rel=>exact ⟨H2.out,rfl⟩
      ·subst h1
       have h2b:(F == FI)=false:=by simpa using h2
       have H2:=qh (show Value.bool false=.bool bb from by rw [HBb.out,decide_eq_false (fun h=>h2 h.2)])
       clear h2
       go_wp2
       go_meet
       case rel=>exact ⟨H2.out,rfl⟩
     ·have h1b:(O == 0)=false:=by simpa using h1
      have H2:=qh (show Value.bool false=.bool bb from by rw [HBb.out,decide_eq_false (fun h=>h1 h.1)])
      clear h1
      go_wp2
      go_meet
      case rel=>exact ⟨H2.out,rfl⟩
    case rest=>
     obtain ⟨rfl,rfl⟩:=hcut
     go_upto_if 126 with fail
     go_cut [15,126] from 127 to 136 (fun _ _ wx=>Y.1=0/\LogS wx q p ms mo lv tv L Y.2/\Kept (fun x=>x=p\/x=ms\/x=mo) w wx)
     case first=>
      rcases Bool.eq_false_or_eq_true bb with hb1 | hb1
      ·have hy:Y=D'.write B (zeros 512):=by rw [HY.out,if_pos (of_decide_eq_true (HBb.out.symm.trans hb1))]
       subst hb1
       have HY2:=qh hy
       clear hy
       go_wp2_with fail
       refine znCh 7 (fun w'=>LogQ w' q p lv tv L) (by kernel_rfl) HSr.out.hq (fun hH=>?_)
       simp only [List.length_cons,List.length_nil,List.replicate]
       refine tK 0 ?_ (fun w' hw'=>?_) hH ?_
       rotate_left
       ·have c0:w'.cell? ⟨q,0,none⟩=some (.pointer (some ⟨p,0,none⟩)):=zcjX hw' rfl
        go_simp<;>with_reducible rfl
       simp only [Act.put,oZa,oZb,oZc]
       refine tK 1 ?_ (fun w' hw'=>?_) hH ?_
       rotate_left
       ·have c0:w'.cell? ⟨q,0,none⟩=some (.pointer (some ⟨p,0,none⟩)):=zcjX hw' rfl
        go_simp<;>with_reducible rfl
       simp only [Act.put,oZa,oZb,oZc]
       refine tK 2 ?_ (fun w' hw'=>?_) hH ?_
       rotate_left
       ·have c0:w'.cell? ⟨q,0,none⟩=some (.pointer (some ⟨p,0,none⟩)):=zcjX hw' rfl
        go_simp<;>with_reducible rfl
       simp only [Act.put,oZa,oZb,oZc]
       refine tK 3 ?_ (fun w' hw'=>?_) hH ?_
       rotate_left
       ·have c0:w'.cell? ⟨q,0,none⟩=some (.pointer (some ⟨p,0,none⟩)):=zcjX hw' rfl
        go_simp<;>with_reducible rfl
       simp only [Act.put,oZa,oZb,oZc]
       refine tK 4 ?_ (fun w' hw'=>?_) hH ?_
       rotate_left
       ·have c0:w'.cell? ⟨q,0,none⟩=some (.pointer (some ⟨p,0,none⟩)):=zcjX hw' rfl
        go_simp<;>with_reducible rfl
       simp only [Act.put,oZa,oZb,oZc]
       refine stepL 5 rfl (by kernel_rfl) (fun K hK=>?_)
       refine zIeg rfl _ _ (by rfl) .i64 .i64 512 512 (by rfl) (by rfl) (Nat.le_refl _) (by decide) ?_
       intro g4 w4 ga gb hb4 hk4
       have HK4:=qh ((HKr.out.drew).trans0 hk4)
       have HS4:=qh ((HSr.out.keep ((Kept.refl (fun _=>False) wr).drew) (fun _ _=>id)).keep hk4 (fun _ _=>id))
       have HB4:=qh (RdB.of_blk hb4)
       clear hb4 hk4
       refine hK.out _ _ (fun _=>HS4.out.hq) (fun _=>?_)
       simp only [Act.put,oZa,oZb,oZc]
       clear hK K
       have HW:=qh (show Calls Try.prog 56 #[.pointer (some ⟨p,0,none⟩),.int .i64 B,.slice (some ⟨g4,0,none⟩) 512 512] w4 fun e w'=>e=.returned (.int .i64 Y.1)/\DevAt w' p ms mo Y.2/\Kept (fun x=>x=p\/x=mo) w4 w' from by
        rw [HY2.out]
        exact zquG HS4.out.dev B (some ⟨g4,0,none⟩) 512 (zeros 512) HB4.out)
       refine stepL 6 rfl (by kernel_rfl) (fun K hK=>?_)
       go_simp
       refine HW.out.mono ?_
       rintro e w5 ⟨rfl,hd5,hk5⟩
       have HS5:=qh (HS4.out.dev2 hk5 (fun x h=>by rcases h with h | h;exact .inl h;exact .inr (.inr h)) hd5)
       have HK5:=qh (HK4.out.trans hk5 (fun x _ h=>by rcases h with h | h;exact .inl h;exact .inr (.inr h)))
       clear hd5 hk5
       go_simp
       refine hK.out _ _ (fun _=>HS5.out.hq) (fun _=>?_)
       simp only [oZa,oZb,oZc]
       clear hK K
       refine stepL 7 rfl (by kernel_rfl) (fun K hK=>?_)
       go_simp
       refine hK.out _ _ (fun h=>absurd rfl h) (fun _=>?_)
       simp only [oZa,oZb,oZc]
       clear hK K hH
       refine doneL (by kernel_rfl) ?_ _
       obtain ⟨E,hE⟩:∃ E,E=Y.1:=⟨_,rfl⟩
       rw [<- hE] at HV3 ⊢
       have HE:=qh hE
       clear hE HW
       by_cases hE0:E=0
       ·subst hE0
        go_wp2
        go_meet
        case rel=>exact ⟨HE.out.symm,HS5.out,HK5.out⟩
       ·have hEb:(E != 0)=true:=by simpa using hE0
        have HV4:=qh (show R=(L,Y.2,E) from by rw [HV3.out,if_pos hE0])
        go_wp2
        go_ret
        unfold zVAR
        rw [HV4.out]
        exact ⟨rfl,tv,HS5.out,HK5.out.mono (fun x _ h=>by rcases h with h | h | h;exact .inr (.inl h);exact .inr (.inr (.inl h));exact .inr (.inr (.inr h))),.inl rfl⟩
      ·have hy:Y=(0,D'):=by rw [HY.out,if_neg (of_decide_eq_false (HBb.out.symm.trans hb1))]
       subst hb1
       have HY2:=qh hy
       clear hy
       go_wp2
       go_meet
       case rel=>exact ⟨by rw [HY2.out],by rw [HY2.out];exact HSr.out,HKr.out⟩
     case rest=>
      obtain ⟨hy0,hS,hK⟩:=hcut
      have HSc:=qh hS
      have HKc:=qh hK
      obtain ⟨D2,hD2⟩:∃ D2,D2=Y.2:=⟨_,rfl⟩
      have hv4:R=if D2.syncR.1≠0 then (L,D2.syncR.2,D2.syncR.1) else
       ({ L with safe:=L.fin,beg:=L.beg+(L.tail.length / 51*51:Nat),tail:=L.tail.drop (L.tail.length / 51*51) },D2.syncR.2,0):=by
       rw [HV3.out,if_neg (by rw [hy0];decide),hD2]
      have HV4:=qh hv4
      rw [<- hD2] at HSc
      have HSY:=qh (zWTC HSc.out.dev)
      obtain ⟨E,hE⟩:∃ E,E=D2.syncR.1:=⟨_,rfl⟩
      obtain ⟨D3,hD3⟩:∃ D3,D3=D2.syncR.2:=⟨_,rfl⟩
      rw [<- hE,<- hD3] at HV4 HSY
      have c0c:wc.cell? ⟨q,0,none⟩=some (.pointer (some ⟨p,0,none⟩)):=zcjX HSc.out.hq rfl
      clear hy0 hS hK hv4 hD2 hE hD3 HSEC c5r
      go_wp2_with fail
      refine HSY.out.mono ?_
      rintro e w5 ⟨rfl,hd5,hk5⟩
      have HS5:=qh (HSc.out.dev2 hk5 (fun x h=>h) hd5)
      have HK5:=qh (HKc.out.trans' hk5)
      clear hd5 hk5 HSY
      by_cases hE0:E=0
      ·subst hE0
       have HV5:=qh (show R=({ L with safe:=L.fin,beg:=L.beg+(L.tail.length / 51*51:Nat),tail:=L.tail.drop (L.tail.length / 51*51) },D3,0) from by rw [HV4.out,if_neg (by decide)])
       have c5s:w5.cell? ⟨q,5,none⟩=some (.int .i64 L.fin):=zcjX HS5.out.hq rfl
       go_wp2_with (refine z2q7 rfl 2 _ _ rfl q 6 (.int .i64 L.fin) (logC p lv tv L) rfl rfl HS5.out.hq (by kernel_rfl) (by show 6 < 10;decide) rfl ?_)
       intro w6 hb6 hk6
       have HQ6:=qh (show LogQ w6 q p lv tv { L with safe:=L.fin } from hb6)
       have HK6:=qh hk6
       clear hb6 hk6
       have HS6:=qh (show LogS w6 q p ms mo lv tv { L with safe:=L.fin } D3 from
        ⟨HS5.out.dev.keep HK6.out H.out.nq.1 H.out.nq.2.1 H.out.nq.2.2,HQ6.out,HS5.out.hl.keep HK6.out (fun x hx=>(H.out.nl x hx).1),HS5.out.ht.keep HK6.out (fun x hx=>(H.out.nt x hx).1),H.out.nq,H.out.nl,H.out.nt⟩)
       have HK6':=qh ((HK5.out.mono (T:=fun x=>x=q\/x=p\/x=ms\/x=mo) (fun x _ h=>by rcases h with h | h | h;exact .inr (.inl h);exact .inr (.inr (.inl h));exact .inr (.inr (.inr h)))).trans HK6.out (fun x _ h=>.inl h))
       have c86:w6.cell? ⟨q,8,none⟩=some (.slice At nt ct):=by rw [<- HTV.out];exact zcjX HQ6.out rfl
       obtain ⟨Kp,hKp⟩:∃ Kp:Nat,Kp=nt / 51*51:=⟨_,rfl⟩
       have HKp:=qh hKp
       have hnt3:(nt:Int)<=3000000000000000000:=by have h1:=HFE.out;have h2:=HNT.out;have h3:=HOK.out.e1;omega
       have hKn:Kp<=nt:=by omega
       have hKn2:nt - Kp<=50:=by omega
       clear hKp
       have HKI:=qh (show (nt:Int) / 51*51=(Kp:Int) from by have:=HKp.out;omega)
       have bg1:=HBB.out.bs
       have ANN:=qh (show At≠none from fun e=>by
        have h1:=H.out.ht
        rw [HTV.out,e] at h1
        rcases h1.form with ⟨_,h2⟩ | ⟨g,cap,h2,_⟩
        ·exact HTN.out h2
        ·cases h2)
       have HCT:=qh (show nt<=ct from by have h1:=H.out.ht;rw [HTV.out] at h1;have h2:=h1.len.2;have h3:=h1.len.1;omega)
       go_wp2_with fail
       refine zV2I [1,17,18,19,20] (fun w'=>LogQ w' q p lv tv { L with safe:=L.fin }) (by kernel_rfl) HQ6.out (fun hH=>?_)
       simp only [List.length_cons,List.length_nil,List.replicate]
       refine takeM 0 ?_ rfl (by kernel_rfl) (fun _ _ _ h=>h) (by rfl) (fun w' hw'=>?_) hH ?_
       rotate_left
       ·skip
        go_simp<;>with_reducible rfl
       simp only [Act.put,oZa,oZb,oZc]
       refine takeU 1 (.pointer (some ⟨q,0,none⟩)) rfl (by kernel_rfl) (fun _ _ _ h=>h) (by rfl) (fun w'=>by go_simp) ?_
       simp only [Act.put,oZa,oZb,oZc]
       refine takeM 2 ?_ rfl (by kernel_rfl) (fun _ _ _ h=>h) (by rfl) (fun w' hw'=>?_) hH ?_
       rotate_left
       ·have c9:w'.cell? ⟨q,9,none⟩=some (.int .i64 L.beg):=zcjX hw' rfl
        go_simp<;>with_reducible rfl
       simp only [Act.put,oZa,oZb,oZc]
       refine takeM 3 ?_ rfl (by kernel_rfl) (fun _ _ _ h=>h) (by rfl) (fun w' hw'=>?_) hH ?_
       rotate_left
       ·have c9:w'.cell? ⟨q,9,none⟩=some (.int .i64 L.beg):=zcjX hw' rfl
        go_simp<;>with_reducible rfl
       simp only [Act.put,oZa,oZb,oZc]
       refine takeM 4 ?_ rfl (by kernel_rfl) (fun _ _ _ h=>h) (by rfl) (fun w' hw'=>?_) hH ?_
       rotate_left
       ·have c9:w'.cell? ⟨q,9,none⟩=some (.int .i64 L.beg):=zcjX hw' rfl
        go_simp<;>with_reducible rfl
       simp only [Act.put,oZa,oZb,oZc]
       refine takeM 5 ?_ rfl (by kernel_rfl) (fun _ _ _ h=>h) (by rfl) (fun w' hw'=>?_) hH ?_
       rotate_left
       ·have c9:w'.cell? ⟨q,9,none⟩=some (.int .i64 L.beg):=zcjX hw' rfl
        go_simp<;>with_reducible rfl
       simp only [Act.put,oZa,oZb,oZc]
       refine takeM 6 ?_ rfl (by kernel_rfl) (fun _ _ _ h=>h) (by rfl) (fun w' hw'=>?_) hH ?_
       rotate_left
       ·have c9:w'.cell? ⟨q,9,none⟩=some (.int .i64 L.beg):=zcjX hw' rfl
        go_simp<;>with_reducible rfl
       simp only [Act.put,oZa,oZb,oZc]
       refine takeM 7 (.int .i64 (L.beg+(nt:Int) / 51*51)) rfl (by kernel_rfl) (fun _ _ _ h=>h) (by rfl) (fun w' hw'=>?_) hH ?_
       ·clear hw'
        have e0:wrap64 (L.beg+(nt:Int) / 51*51)=L.beg+(nt:Int) / 51*51:=by unfold wrap64;omega
        have e1:IntKind.i64.wrap (L.beg+(nt:Int) / 51*51)=L.beg+(nt:Int) / 51*51:=by rw [IntKind.wrap_i64];omega
        go_simp
       simp only [Act.put,oZa,oZb,oZc]
       refine takeM 8 ?_ rfl (by kernel_rfl) (fun _ _ _ h=>h) (by rfl) (fun w' hw'=>?_) hH ?_
       rotate_left
       ·have c8:w'.cell? ⟨q,8,none⟩=some (.slice At nt ct):=(by rw [<- HTV.out];exact zcjX hw' rfl)
        go_simp<;>with_reducible rfl
       simp only [Act.put,oZa,oZb,oZc]
       refine takeM 9 ?_ rfl (by kernel_rfl) (fun _ _ _ h=>h) (by rfl) (fun w' hw'=>?_) hH ?_
       rotate_left
       ·have c8:w'.cell? ⟨q,8,none⟩=some (.slice At nt ct):=(by rw [<- HTV.out];exact zcjX hw' rfl)
        go_simp<;>with_reducible rfl
       simp only [Act.put,oZa,oZb,oZc]
       refine takeM 10 ?_ rfl (by kernel_rfl) (fun _ _ _ h=>h) (by rfl) (fun w' hw'=>?_) hH ?_
       rotate_left
       ·have c8:w'.cell? ⟨q,8,none⟩=some (.slice At nt ct):=(by rw [<- HTV.out];exact zcjX hw' rfl)
        go_simp<;>with_reducible rfl
       simp only [Act.put,oZa,oZb,oZc]
       refine takeM 11 ?_ rfl (by kernel_rfl) (fun _ _ _ h=>h) (by rfl) (fun w' hw'=>?_) hH ?_
       rotate_left
       ·have c8:w'.cell? ⟨q,8,none⟩=some (.slice At nt ct):=(by rw [<- HTV.out];exact zcjX hw' rfl)
        go_simp<;>with_reducible rfl
       simp only [Act.put,oZa,oZb,oZc]
       refine takeM 12 ?_ rfl (by kernel_rfl) (fun _ _ _ h=>h) (by rfl) (fun w' hw'=>?_) hH ?_
       rotate_left
       ·have c8:w'.cell? ⟨q,8,none⟩=some (.slice At nt ct):=(by rw [<- HTV.out];exact zcjX hw' rfl)
        go_simp<;>with_reducible rfl
       simp only [Act.put,oZa,oZb,oZc]
       refine takeM 13 (.slice (slA At Kp ct) (nt - Kp) (ct - Kp)) rfl (by kernel_rfl) (fun _ _ _ h=>h) (by rfl) (fun w' _=>zjw2 _ _ Kp rfl At nt ct _ rfl rfl HKI.out hKn w') hH ?_
       simp only [Act.put,oZa,oZb,oZc]
       refine stepM 14 rfl (by kernel_rfl) (fun K hK=>?_)
       go_simp
       go_at_call 41
       refine (z12v (slA At Kp ct) (nt - Kp) (ct - Kp) (L.tail.drop Kp) _ (by rw [List.length_drop,HNT.out]) (by
        have h1:=HS6.out.ht
        rw [HTV.out] at h1
        exact RdB.sl (w:=w6) h1.rd Kp ct (by rw [HNT.out];exact HCT.out)) (ztrL ANN.out _ _) (by omega)).mono ?_
       rintro e w7 ⟨A7,c7,rfl,ho7,hk7⟩
       have HO7:=qh ho7
       have HK7:=qh (((Kept.refl (fun _=>False) w6).drew).trans0 hk7)
       have HS7:=qh (HS6.out.keep HK7.out (fun _ _=>id))
       have SZ7:=qh hk7.size
       clear ho7 hk7
       go_simp
       refine hK.out _ _ (fun _=>HS7.out.hq) (fun hH=>?_)
       simp only [oZa,oZb,oZc]
       clear hK K
       refine stepM 15 rfl (by kernel_rfl) (fun K hK=>?_)
       go_simp
       refine hK.out _ _ (fun _=>HS7.out.hq) (fun hH=>?_)
       simp only [oZa,oZb,oZc]
       clear hK K
       refine stepM 16 rfl (by kernel_rfl) (fun K hK=>?_)
       go_simp
       refine hK.out _ _ (fun _=>HS7.out.hq) (fun hH=>?_)
       simp only [oZa,oZb,oZc]
       clear hK K
       refine stepM 17 rfl (by kernel_rfl) (fun K hK=>?_)
       refine zRRc rfl 2 _ _ (by rfl) q 9 (.int .i64 (L.beg+(nt:Int) / 51*51)) (logC p lv tv { L with safe:=L.fin }) (by rfl) (by rfl) HS7.out.hq (by kernel_rfl) (by show 9 < 10;decide) rfl ?_
       intro w8 hb8 hk8
       have HQ8:=qh (show LogQ w8 q p lv tv { L with safe:=L.fin,beg:=L.beg+(nt:Int) / 51*51 } from hb8)
       have HK8:=qh hk8
       clear hb8 hk8
       refine hK.out _ _ (fun h=>by cases h) (fun _=>?_)
       simp only [Act.put,oZa,oZb,oZc]
       clear hK K
       refine stepM 18 rfl (by kernel_rfl) (fun K hK=>?_)
       go_simp
       refine hK.out _ _ (fun h=>by cases h) (fun _=>?_)
       simp only [oZa,oZb,oZc]
       clear hK K
       refine stepM 19 rfl (by kernel_rfl) (fun K hK=>?_)
       go_simp
       refine hK.out _ _ (fun h=>by cases h) (fun _=>?_)
       simp only [oZa,oZb,oZc]
       clear hK K
       refine stepM 20 rfl (by kernel_rfl) (fun K hK=>?_)
       refine zRRc rfl 37 _ _ (by rfl) q 8 (.slice A7 (nt - Kp) c7) (logC p lv tv { L with safe:=L.fin,beg:=L.beg+(nt:Int) / 51*51 }) (by rfl) (by rfl) HQ8.out (by kernel_rfl) (by show 8 < 10;decide) rfl ?_
       intro w9 hb9 hk9
       have HQ9:=qh (show LogQ w9 q p lv (.slice A7 (nt - Kp) c7) { L with safe:=L.fin,beg:=L.beg+(nt:Int) / 51*51,tail:=L.tail.drop Kp } from hb9)
       have HK9:=qh (HK8.out.trans' hk9)
       clear hb9 hk9
       refine hK.out _ _ (fun h=>by cases h) (fun _=>?_)
       simp only [Act.put,oZa,oZb,oZc]
       clear hK K hH
       refine doneM (by kernel_rfl) ?_ _
       go_wp2
       go_ret
       unfold zVAR
       have eb:L.beg+(nt:Int) / 51*51=L.beg+((L.tail.length / 51*51:Nat):Int):=by rw [HNT.out,<- HKp.out,HKI.out]
       have et:L.tail.drop Kp=L.tail.drop (L.tail.length / 51*51):=by rw [HNT.out,<- HKp.out]
       have hQf:=HQ9.out
       have hOf:=HO7.out
       rw [eb,et] at hQf
       rw [et] at hOf
       have hq7:∀ x,(Value.slice A7 (nt - Kp) c7).ownBlock=some x->w6.heap.size<=x:=fun x hx=>(hOf.base_le hx).1
       have hqlt:=zvKu HQ6.out
       rw [HV5.out]
       refine ⟨rfl,_,⟨HS7.out.dev.keep HK9.out H.out.nq.1 H.out.nq.2.1 H.out.nq.2.2,hQf,HS7.out.hl.keep HK9.out (fun x hx=>(H.out.nl x hx).1),(hOf.keep HK9.out (fun x hx e=>by have:=hq7 x hx;omega)).low (Nat.zero_le _),H.out.nq,fun x hx=>?_,fun x hx=>?_⟩,(HK6'.out.trans0 HK7.out).trans HK9.out (fun x _ h=>.inl h),.inr (fun x hx=>?_)⟩
       ·have h1:=H.out.nl x hx
        refine ⟨h1.1,h1.2.1,h1.2.2.1,h1.2.2.2.1,fun e=>?_⟩
        have h2:=hq7 x e
        have h3:=(HS6.out.hl.base_le hx).2
        omega
       ·have h2:=hq7 x hx
        have h3:=zvKu HS6.out.dev.hp
        have h4:=HS6.out.dev.hs.lt
        have h5:=HS6.out.dev.ho.lt
        exact ⟨by omega,by omega,by omega,by omega⟩
       ·have h2:=hq7 x hx
        have h3:=HK6'.out.size
        omega
      ·have hEb:(E != 0)=true:=by simpa using hE0
       have HV5:=qh (show R=(L,D3,E) from by rw [HV4.out,if_pos hE0])
       go_wp2
       go_ret
       unfold zVAR
       rw [HV5.out]
       exact ⟨rfl,tv,HS5.out,HK5.out.mono (fun x _ h=>by rcases h with h | h | h;exact .inr (.inl h);exact .inr (.inr (.inl h));exact .inr (.inr (.inr h))),.inl rfl⟩
   ·have hpos:0 < n:=by rw [<- hn1];exact List.length_pos_iff.2 hr
    have HR:=qh hr
    have hfb2:=HFB.out hr
    obtain ⟨f,rfl⟩:∃ f',f=f'+1:=⟨f - 1,by omega⟩
    have hp2:=HPr.out
    rw [zVN9 hr] at hp2
    have HSEC:=qh (zdrd wr q p lv tv L HSr.out.hq HOK.out fst hf1 (by omega))
    have hO:=zSEi (a:=fst) HOK.out.c0
    obtain ⟨O,hO'⟩:∃ O:Nat,secO L.count fst=(O:Int):=⟨(secO L.count fst).toNat,by omega⟩
    have hO64:∃ j,O=64*j:=⟨O / 64,by unfold secO at hO';omega⟩
    obtain ⟨B,hB⟩:∃ B,B=secB L.first L.count fst:=⟨_,rfl⟩
    rw [hO',<- hB] at HSEC
    rw [hO',<- hB,Int.toNat_natCast] at hp2
    have hO448:O<=448:=by omega
    have c0:wr.cell? ⟨q,0,none⟩=some (.pointer (some ⟨p,0,none⟩)):=zcjX HSr.out.hq rfl
    obtain ⟨FF,hFF⟩:∃ FF,FF=secF fst:=⟨_,rfl⟩
    rw [<- hFF] at HSEC
    clear hr hB hO hO' HPr hFF
    by_cases hm:D'.mayE B=0
    ·rw [if_neg (by rw [hm];decide)] at hp2
     obtain ⟨Y,hY⟩:∃ Y,Y=fillM L.turn 8 ((D'.latest B).take O ++ zeros (512 - O)) O rest fst:=⟨_,rfl⟩
     rw [<- hY] at hp2
     have HP2:=qh hp2
     have HY:=qh hY.symm
     have HYL:=qh (show Y.2.1.length < rest.length from by rw [hY];exact zc9F HR.out (by omega))
     have HRD:=qh (zqzz HSr.out.dev B hm)
     have LB:=qh (HSr.out.dev.len B)
     clear hp2 hY hm
     go_wp2_with fail
     refine HSEC.out.mono ?_
     rintro e wx ⟨rfl,rfl⟩
     go_wp2_with fail
     refine HRD.out.mono ?_
     rintro e w2 ⟨g2,k2,rfl,hb2,hk2⟩
     have hk512:512<=k2:=by
      obtain ⟨cur,_,_,h5,_⟩:=hb2.form
      rw [LB.out] at h5;exact h5
     have HB2:=qh hb2
     have HK2:=qh hk2
     have HS2:=qh (HSr.out.keep hk2 (fun _ _=>id))
     clear hb2 hk2 HRD HSEC
     go_wp2_with (first
      | (refine z3Ho rfl (zjw2 _ _ O rfl (some ⟨g2,0,none⟩) 512 k2 _ rfl rfl rfl (by omega) _) ?_)
      | (refine z623 rfl _ rfl HB2.out O (512 - O) (k2 - O) (by rw [LB.out];omega) (slA (some ⟨g2,0,none⟩) O k2) (fun _=>zG1u _ _ _ (by omega)) rfl ?_))
     intro w3 hb3 hk3
     have hpe:ovL (D'.latest B) O (zeros (512 - O))=(D'.latest B).take O ++ zeros (512 - O):=by
      have:=zjZm (l:=D'.latest B) (off:=O) (by rw [LB.out];omega)
      rwa [LB.out] at this
     rw [hpe] at hb3
     obtain ⟨P1,hP1⟩:∃ P1,P1=(D'.latest B).take O ++ zeros (512 - O):=⟨_,rfl⟩
     have LP1:=qh (show P1.length=512 from by rw [hP1,List.length_append,List.length_take,zrlC,LB.out];omega)
     rw [<- hP1] at hb3 HY
     have HB3:=qh hb3
     have HK3:=qh (HK2.out.new hk3 (by rintro x rfl;exact HB2.out.base_le))
     clear hb3 hk3 hpe hP1 HB2 HK2 HS2
     obtain ⟨wo,hwo⟩:∃ wo:World,wo=wr:=⟨_,rfl⟩
     subst hwo
     go_wp2_with fail
     go_loopw [3,4,6] (fun x y o wi=>∃ (fi:Nat) (pg rest':Bytes) (fst':Int) (O':Nat) (A':Option Addr) (n' c':Nat),x=.slice A' n' c'/\y=.int .i64 fst'/\o=.int .i64 O'/\OwnB wi wo.heap.size g2 k2 pg/\pg.length=512/\fillM L.turn fi pg O' rest' fst'=Y/\512<=O'+64*fi/\(∃ j,O'=64*j)/\O'<=512/\VwB wi tv A' n' c' rest'/\(rest'≠[]->fst'+n'=BE)/\1<=fst'/\fst'<=BE+51/\Kept (fun _=>False) wo wi) (fun x y o wi=>vlen x)
     case atStart=>
      have h1:=HB3.out
      refine ⟨8,P1,rest,fst,O,A,n,c,rfl,rfl,rfl,h1,LP1.out,HY.out,by omega,hO64,by omega,HVr.out.keep HK3.out (fun _ _=>id),fun _=>hfb2,hf1,by omega,HK3.out⟩
     case round=>
      obtain ⟨fi,pg,rest',fst',O',A',n',c',rfl,rfl,rfl,hb,hpg,hfy,hfo,hoj,ho5,hv',hfb',hf',hf2,hk'⟩:=hrel
      have HBi:=qh hb
      have HPG:=qh hpg
      have HFY:=qh hfy
      have HVi:=qh hv'
      have HKi:=qh hk'
      have HFB':=qh hfb'
      have hn1':=hv'.2.1
      have hn2':=hv'.2.2.1
      have hn3':=hv'.2.2.2.1
      have HSi:=qh (HSr.out.keep hk' (fun _ _=>id))
      clear hb hpg hfy hv' hk' hfb'
      by_cases hgo:O' < 512/\0 < n'
      ·obtain ⟨hgo1,hgo2⟩:=hgo
       obtain ⟨gi,rfl⟩:∃ g,fi=g+1:=⟨fi - 1,by omega⟩
       have hrn:rest'≠[]:=fun e=>by rw [e] at hn1';simp at hn1';omega
       have hfb2':=HFB'.out hrn
       obtain ⟨m,hm⟩:∃ m,m=min n' 51:=⟨_,rfl⟩
       have HM:=qh hm
       have hm1:m<=n':=by omega
       have hm2:m<=51:=by omega
       have hm3:0 < m:=by omega
       have ht1:rest'.take 51=rest'.take m:=by rw [hm,<- hn1'];exact (zTm4 _ _).symm
       have ht2:rest'.drop 51=rest'.drop m:=by rw [hm,<- hn1'];exact (zQzm _ _).symm
       have hfy2:=HFY.out
       rw [zA2o hrn hgo1,ht1,ht2,hn1',<- hm] at hfy2
       have HFY2:=qh hfy2
       have i1:(O':Int) < 512:=by omega
       have i2:(0:Int) < (n':Int):=by omega
       have HTL:=qh (show (rest'.take m).length=m from by rw [List.length_take,hn1'];omega)
       have HVT:=qh (HVi.out.1.slH c' m (by rw [hn1'];exact hn2'))
       have LST:=qh (zqcD fst'.toNat L.turn.toNat m)
       clear hm ht1 ht2 hfy2 hrn HFY
       go_wp2_with (refine zsaM rfl _ rfl n' m HM.out rfl rfl ?_)
       refine znCh 14 (fun w'=>LogQ w' q p lv tv L) (by kernel_rfl) HSi.out.hq (fun hH=>?_)
       simp only [List.length_cons,List.length_nil,List.replicate]
       refine tK 0 ?_ (fun w' hw'=>?_) hH ?_
       rotate_left
       ·skip
        go_simp<;>with_reducible rfl
       simp only [Act.put,oZa,oZb,oZc]
       refine tK 1 ?_ (fun w' hw'=>?_) hH ?_
       rotate_left
       ·skip
        go_simp<;>with_reducible rfl
       simp only [Act.put,oZa,oZb,oZc]
       refine takeL 2 (.slice (slA (some ⟨g2,0,none⟩) O' k2) (512 - O') (k2 - O')) rfl (by kernel_rfl) (fun _ _ _ h=>h) (by rfl) (fun w' _=>zjw2 _ _ O' rfl (some ⟨g2,0,none⟩) 512 k2 _ rfl rfl rfl (by omega) w') hH ?_
       simp only [Act.put,oZa,oZb,oZc]
       refine tK 3 ?_ (fun w' hw'=>?_) hH ?_
       rotate_left
       ·have c3:w'.cell? ⟨q,3,none⟩=some (.int .i64 L.turn):=zcjX hw' rfl
        go_simp<;>with_reducible rfl
       simp only [Act.put,oZa,oZb,oZc]
       refine tK 4 ?_ (fun w' hw'=>?_) hH ?_
       rotate_left
       ·have c3:w'.cell? ⟨q,3,none⟩=some (.int .i64 L.turn):=zcjX hw' rfl
        go_simp<;>with_reducible rfl
       simp only [Act.put,oZa,oZb,oZc]
       refine tK 5 ?_ (fun w' hw'=>?_) hH ?_
       rotate_left
       ·have c3:w'.cell? ⟨q,3,none⟩=some (.int .i64 L.turn):=zcjX hw' rfl
        go_simp<;>with_reducible rfl
       simp only [Act.put,oZa,oZb,oZc]
       refine tK 6 ?_ (fun w' hw'=>?_) hH ?_
       rotate_left
       ·have c3:w'.cell? ⟨q,3,none⟩=some (.int .i64 L.turn):=zcjX hw' rfl
        go_simp<;>with_reducible rfl
       simp only [Act.put,oZa,oZb,oZc]
       refine tK 7 ?_ (fun w' hw'=>?_) hH ?_
       rotate_left
       ·have c3:w'.cell? ⟨q,3,none⟩=some (.int .i64 L.turn):=zcjX hw' rfl
        go_simp<;>with_reducible rfl
       simp only [Act.put,oZa,oZb,oZc]
       refine tK 8 ?_ (fun w' hw'=>?_) hH ?_
       rotate_left
       ·have c3:w'.cell? ⟨q,3,none⟩=some (.int .i64 L.turn):=zcjX hw' rfl
        go_simp<;>with_reducible rfl
       simp only [Act.put,oZa,oZb,oZc]
       refine tK 10 ?_ (fun w' hw'=>?_) hH ?_
       rotate_left
       ·have c3:w'.cell? ⟨q,3,none⟩=some (.int .i64 L.turn):=zcjX hw' rfl
        go_simp<;>with_reducible rfl
       simp only [Act.put,oZa,oZb,oZc]
       refine tK 11 ?_ (fun w' hw'=>?_) hH ?_
       rotate_left
       ·have c3:w'.cell? ⟨q,3,none⟩=some (.int .i64 L.turn):=zcjX hw' rfl
        go_simp<;>with_reducible rfl
       simp only [Act.put,oZa,oZb,oZc]
       refine takeL 12 (.slice (slA A' 0 c') m c') rfl (by kernel_rfl) (fun _ _ _ h=>h) (by rfl) (fun w' _=>zdzR _ _ m rfl A' n' c' _ rfl rfl rfl (by omega) w') hH ?_
       simp only [Act.put,oZa,oZb,oZc]
       refine stepL 9 rfl (by kernel_rfl) (fun K hK=>?_)
       go_simp
       go_at_call 55
       refine (zl7L fst' L.turn m _ (by omega) (by omega) t0 (by omega) (by omega) (by omega)).mono ?_
       rintro e w4 ⟨v4,rfl,ho4,hk4⟩
       rw [Int.toNat_natCast] at ho4
       have HO4:=qh ho4
       have HK4:=qh (((Kept.refl (fun _=>False) wr).drew).trans0 hk4)
       have HS4:=qh (HSi.out.keep HK4.out (fun _ _=>id))
       have HB4:=qh (HBi.out.keep HK4.out id)
       have HVT4:=qh (HVT.out.kept HK4.out (fun _ _ _ _ h=>h))
       have SZ4:=qh hk4.size
       clear ho4 hk4
       go_simp
       refine hK.out _ _ (fun _=>HS4.out.hq) (fun _=>?_)
       simp only [oZa,oZb,oZc]
       clear hK K
       refine stepL 13 rfl (by kernel_rfl) (fun K hK=>?_)
       refine zNGM rfl _ _ (by rfl) wr.heap.size v4 _ (rest'.take m) (by rfl) HO4.out (slA A' 0 c') m c' (by rfl) HTL.out HVT4.out (by rw [LST.out,HTL.out];omega) SZ4.out ?_
       intro v5 w5 ho5 hk5
       obtain ⟨A5,n5,c5',hv5,hn5⟩:=ho5.parts
       subst hv5
       have HN5:=qh hn5
       have HLM:=qh (show (z7b5 fst'.toNat L.turn.toNat m ++ rest'.take m).length=13+m from by rw [List.length_append,LST.out,HTL.out])
       have HO5:=qh ho5
       have HK5:=qh (HK4.out.new hk5 (fun x hx=>hx))
       have HS5:=qh (HSi.out.keep HK5.out (fun _ _=>id))
       have HB5:=qh (HBi.out.keep HK5.out id)
       clear ho5 hk5 hn5
       refine hK.out _ _ (fun _=>HS5.out.hq) (fun _=>?_)
       simp only [Act.put,oZa,oZb,oZc]
       clear hK K
       refine stepL 14 rfl (by kernel_rfl) (fun K hK=>?_)
       refine z83d rfl _ _ (by rfl) HB5.out O' (by rw [HPG.out];omega) (slA (some ⟨g2,0,none⟩) O' k2) A5 (fun _=>zG1u _ _ _ (by omega)) (z7b5 fst'.toNat L.turn.toNat m ++ rest'.take m) HO5.out.rd (k2 - O') c5' (by rw [HPG.out];rfl) (by rw [HN5.out];rfl) ?_
       intro n6 w6 hn6 hb6 hk6
       rw [zTDn (by rw [HLM.out,HPG.out];omega)] at hb6
       obtain ⟨PG,hPG⟩:∃ PG,PG=pg.take O' ++ ((z7b5 fst'.toNat L.turn.toNat m ++ rest'.take m) ++ pg.drop (O'+(z7b5 fst'.toNat L.turn.toNat m ++ rest'.take m).length)):=⟨_,rfl⟩
       have LPG:=qh (show PG.length=512 from by rw [hPG,List.length_append,List.length_append,HLM.out,List.length_take,List.length_drop,HPG.out];omega)
       rw [<- hPG] at hb6 HFY2
       have HB6:=qh hb6
       have HK6:=qh (HK5.out.mono (T:=fun x=>x=g2) (fun _ _ h=>h.elim) |>.trans' hk6)
       have HK7:=qh (HKi.out.new HK6.out (by rintro x rfl;exact HBi.out.base_le))
       have HV7:=qh ((HVi.out.drop m hm1).keep HK6.out (fun x hx e=>by have h1:=HBi.out.base_le;have h2:=(HSr.out.ht.base_le hx).2;omega))
       clear hn6 hb6 hk6 hPG
       refine hK.out _ _ (fun h=>absurd rfl h) (fun _=>?_)
       simp only [Act.put,oZa,oZb,oZc]
       clear hK K hH
       refine doneL (by kernel_rfl) ?_ _
       go_wp2_with (refine z3Ho rfl (zjw2 _ _ m rfl A' n' c' _ rfl rfl rfl hm1 _) ?_)
       go_roundw
       case rel=>exact ⟨gi,PG,rest'.drop m,fst'+51,O'+64,slA A' m c',n' - m,c' - m,rfl,rfl,by go_num,HB6.out,LPG.out,HFY2.out,by omega,(by obtain ⟨j,hj⟩:=hoj;exact ⟨j+1,by omega⟩),by omega,HV7.out,(fun h=>by
        have h3:0 < (rest'.drop m).length:=List.length_pos_iff.2 h
        rw [List.length_drop,hn1'] at h3
        have:=HM.out
        omega),by omega,by have:=HM.out;omega,HK7.out⟩
       case measure=>simp [vlen];omega
      ·have hy:Y=(pg,rest',fst'):=by
        rw [<- HFY.out]
        refine zrnW ?_
        rcases Nat.lt_or_ge O' 512 with h | h
        ·left
         have:n'=0:=by omega
         rw [this] at hn1'
         exact List.length_eq_zero_iff.1 hn1'
        ·exact .inr h
       have hp3:=HP2.out
       rw [hy] at hp3
       have hyl:=HYL.out
       rw [hy] at hyl
       have hyl':n' < n:=by rw [<- hn1',<- hn1];exact hyl
       have HP3:=qh hp3
       have HW:=qh (show ∀ wz,DevAt wz p ms mo D'->RdB wz (some ⟨g2,0,none⟩) pg->Calls Try.prog 56 #[.pointer (some ⟨p,0,none⟩),.int .i64 B,.slice (some ⟨g2,0,none⟩) 512 k2] wz fun e w'=>e=.returned (.int .i64 (D'.write B pg).1)/\DevAt w' p ms mo (D'.write B pg).2/\Kept (fun x=>x=p\/x=mo) wz w' from fun wz h1 h2=>by
        have:=zquG h1 B (some ⟨g2,0,none⟩) k2 pg h2
        rwa [HPG.out] at this)
       have c0':wr.cell? ⟨q,0,none⟩=some (.pointer (some ⟨p,0,none⟩)):=zcjX HSi.out.hq rfl
       have HW2:=qh (HW.out wr HSi.out.dev (OwnV.rd (n:=pg.length) (c:=k2) HBi.out))
       obtain ⟨Z,hZ⟩:∃ Z,Z=D'.write B pg:=⟨_,rfl⟩
       have hp4:(if Z.1≠0 then (Z.2,Z.1) else pourM L.first L.count L.turn f Z.2 rest' fst')=X:=by rw [hZ];exact HP3.out
       rw [<- hZ] at HW2
       have HP4:=qh hp4
       clear hy hp3 hyl HW hZ hp4 HP3
       go_upto_region 12 with fail
       go_cut [71] from 65 to 71 (fun v wx=>v=.bool false/\wr=wx)
       case first=>
        by_cases h5:O' < 512
        ·have i1:(O':Int) < 512:=by omega
         have i2:n'=0:=by omega
         subst i2
         clear hgo
         go_wp2
         go_meet
         case rel=>exact ⟨rfl,rfl⟩
        ·have i1:¬ (O':Int) < 512:=by omega
         clear hgo
         go_wp2
         go_meet
         case rel=>exact ⟨rfl,rfl⟩
       case rest=>
        obtain ⟨rfl,rfl⟩:=hcut
        obtain ⟨E,hE⟩:∃ E,E=Z.1:=⟨_,rfl⟩
        obtain ⟨D2,hD2⟩:∃ D2,D2=Z.2:=⟨_,rfl⟩
        rw [<- hE,<- hD2] at HW2 HP4
        clear hE hD2
        go_wp2_with fail
        refine HW2.out.mono ?_
        rintro e w7 ⟨rfl,hd7,hk7⟩
        have HK7:=qh ((HKr.out.trans' (HKi.out.mono (T:=fun x=>x=p\/x=ms\/x=mo) (fun _ _ h=>h.elim))).trans hk7 (fun x _ h=>by rcases h with h | h;exact .inl h;exact .inr (.inr h)))
        have HS7:=qh (show LogS w7 q p ms mo lv tv L D2 from
         ⟨hd7,hk7.heap HSi.out.hq (by rintro (e | e);exact H.out.nq.1 e.symm;exact H.out.nq.2.2 e.symm),HSi.out.hl.keep hk7 (fun x hx e=>by have:=H.out.nl x hx;rcases e with e | e;exact this.2.1 e;exact this.2.2.2.1 e),
          HSi.out.ht.keep hk7 (fun x hx e=>by have:=H.out.nt x hx;rcases e with e | e;exact this.2.1 e;exact this.2.2.2 e),H.out.nq,H.out.nl,H.out.nt⟩)
        have HV7:=qh (HVi.out.keep hk7 (fun x hx e=>by have:=H.out.nt x hx;rcases e with e | e;exact this.2.1 e;exact this.2.2.2 e))
        clear hd7 hk7 HW2 c0'
        by_cases hE0:E=0
        ·subst hE0
         have HP5:=qh (show pourM L.first L.count L.turn f D2 rest' fst'=X from by have:=HP4.out;rwa [if_neg (by simp)] at this)
         go_wp2
         go_roundw
         case rel=>exact ⟨f,D2,rest',fst',A',n',c',rfl,rfl,HS7.out,HV7.out,HP5.out,by omega,HFB'.out,hf',HK7.out⟩
         case measure=>simp [vlen];omega
        ·have hEb:(E != 0)=true:=by simpa using hE0
         have hx:X=(D2,E):=by have:=HP4.out;rwa [if_pos hE0,eq_comm] at this
         have HV2:=qh (show R=(L,D2,E) from by rw [HV.out,hx,if_pos hE0])
         clear hx
         go_wp2
         go_ret
         unfold zVAR
         rw [HV2.out]
         exact ⟨rfl,tv,HS7.out,HK7.out.mono (fun x _ h=>by rcases h with h | h | h;exact .inr (.inl h);exact .inr (.inr (.inl h));exact .inr (.inr (.inr h))),.inl rfl⟩
    ·rw [if_pos hm] at hp2
     have hv2:R=(L,D',D'.mayE B):=by rw [HV.out,<- hp2,if_pos hm]
     have HV2:=qh hv2
     have HRD:=qh (zpER HSr.out.dev B hm)
     have hmb:(D'.mayE B != 0)=true:=by simpa using hm
     obtain ⟨E,hE⟩:∃ E,E=D'.mayE B:=⟨_,rfl⟩
     rw [<- hE] at HRD HV2 hmb
     clear hp2 hv2 hm hE
     go_wp2_with fail
     refine HSEC.out.mono ?_
     rintro e wx ⟨rfl,rfl⟩
     go_wp2_with (go_at_call 28;refine HRD.out.mono ?_;rintro e w2 ⟨rfl,rfl⟩)
     go_ret
     unfold zVAR
     rw [HV2.out]
     exact ⟨rfl,tv,HSr.out,HKr.out.mono (fun x _ h=>by rcases h with h | h | h;exact .inr (.inl h);exact .inr (.inr (.inl h));exact .inr (.inr (.inr h))),.inl rfl⟩
end Go.Proofs.Ytnbfhdgojmflhaa
