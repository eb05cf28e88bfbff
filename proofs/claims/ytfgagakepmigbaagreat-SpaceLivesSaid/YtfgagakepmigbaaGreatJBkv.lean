/-
  No statement is proved here.
-/
import Derived.Test.YtfgagakepmigbaaGreatJBkt
import Derived.Test.YtfgagakepmigbaaGreatJOrl
namespace Go.Proofs.YtfgagakepmigbaaGreat
open Go.RowKit
def backR (r:RecM) (nx:Int):RecM:=⟨0,0,2,0,0,nx,r.blk,r.off,[],r.old⟩
def nxM (b:BkM) (n:Nat):Int:=if n=0 then 0 else b.done.getD (n - 1) 0
def undoM:Nat->BkM->PoolM->LogM->DevM->BkM×PoolM×LogM×DevM×Int
 | 0,b,P,L,D=>(b,P,L,D,0)
 | n+1,b,P,L,D=>
  match (L.read D (b.done.getD n 0)).1 with
  | none=>(b,P,L,D,(L.read D (b.done.getD n 0)).2)
  | some r=>
   if (b.chg P L D (backR r (nxM b n))).2.2.2.2≠0 then b.chg P L D (backR r (nxM b n)) else
   undoM n { (b.chg P L D (backR r (nxM b n))).1 with done:=b.done.take n } (b.chg P L D (backR r (nxM b n))).2.1 (b.chg P L D (backR r (nxM b n))).2.2.1 (b.chg P L D (backR r (nxM b n))).2.2.2.1
def z9cn (X:BkM×PoolM×LogM×DevM×Int):BkM×PoolM×LogM×DevM×Int:=
 if X.2.2.2.2≠0 then X else
 if (X.1.app X.2.2.1 (endR 4)).2.2≠0 then ((X.1.app X.2.2.1 (endR 4)).1,X.2.1,(X.1.app X.2.2.1 (endR 4)).2.1,X.2.2.2.1,(X.1.app X.2.2.1 (endR 4)).2.2) else
 ({ (X.1.app X.2.2.1 (endR 4)).1 with inT:=false,done:=[] },X.2.1,(X.1.app X.2.2.1 (endR 4)).2.1,X.2.2.2.1,0)
def zcT1 (b:BkM) (P:PoolM) (L:LogM) (D:DevM):BkM×PoolM×LogM×DevM×Int:=if b.inT=false then (b,P,L,D,7) else z9cn (undoM b.done.length b P L D)
theorem zEMH {L:LogM} {D:DevM} {n:Int}:((L.read D n).1=none->(L.read D n).2≠0)/\∀ r,(L.read D n).1=some r->(L.read D n).2=0:=by
 obtain ⟨Y,hY⟩:∃ Y,Y=L.bytes D n ((if findM L.lsns n+1 < L.lsns.length then L.lsns.getD (findM L.lsns n+1) 0 else L.fin) - n).toNat:=⟨_,rfl⟩
 have e:L.read D n=if L.lsns.getD (findM L.lsns n) 0≠n\/L.lsns.length<=findM L.lsns n then (none,6) else if Y.2≠0 then (none,Y.2) else match getL Y.1 with
  | some (r,_)=>(some r,0)
  | none=>(none,4):=by rw [hY];rfl
 rw [e]
 clear e hY
 by_cases h1:L.lsns.getD (findM L.lsns n) 0≠n\/L.lsns.length<=findM L.lsns n
 ·rw [if_pos h1];exact ⟨fun _=>(by decide:(6:Int)≠0),fun r h=>by cases h⟩
 ·rw [if_neg h1]
  by_cases h2:Y.2≠0
  ·rw [if_pos h2];exact ⟨fun _=>h2,fun r h=>by cases h⟩
  ·rw [if_neg h2]
   cases getL Y.1 with
   | none=>exact ⟨fun _=>(by decide:(4:Int)≠0),fun r h=>by cases h⟩
   | some z=>exact ⟨(fun h=>by cases h),fun r _=>rfl⟩
structure AbJ (J:Nat->BkM->PoolM->LogM->DevM->Prop):Prop where
 len:∀ n b P L D,J n b P L D->b.done.length=n
 good:∀ n b P L D,J n b P L D->BkG P L D/\(isI b.tx/\isI b.last)
 rcd:∀ n b P L D r,J (n+1) b P L D->(L.read D (b.done.getD n 0)).1=some r->r.old≠[]/\r.old.length<=1000000/\RecOk (backR r (nxM b n))/\((b.app L (backR r (nxM b n))).2.2=0->LogG (b.app L (backR r (nxM b n))).2.1)
 next:∀ n b P L D r,J (n+1) b P L D->(L.read D (b.done.getD n 0)).1=some r->(b.chg P L D (backR r (nxM b n))).2.2.2.2=0->J n { (b.chg P L D (backR r (nxM b n))).1 with done:=b.done.take n } (b.chg P L D (backR r (nxM b n))).2.1 (b.chg P L D (backR r (nxM b n))).2.2.1 (b.chg P L D (backR r (nxM b n))).2.2.2.1
def dvLen (w:World) (bk:Nat):Nat:=match w.cell? ⟨bk,6,none⟩ with
 | some (.slice _ n _)=>n
 | _=>0
theorem LsV.takeN {w:World} {base:Nat} {A:Option Addr} {n c m:Nat} {l:List Int} (h:LsV w base (.slice A n c) l) (hm:m<=l.length) (h0:A≠none):LsV w base (.slice A m c) (l.take m):=by
 rcases h with ⟨e,rfl⟩ | ⟨g,off,c',cur,e,h2,h3,h4,h5,h6,h7⟩
 ·injection e with e1 _ _
  exact absurd e1 h0
 ·injection e with e1 _ e3
  subst e1;subst e3
  refine .inr ⟨g,off,c,cur,by rw [List.length_take,Nat.min_eq_left hm],h2,h3,by rw [List.length_take];omega,h5,h6,fun k x hk=>h7 k x ?_⟩
  rw [List.getElem?_take] at hk
  split at hk
  ·exact hk
  ·cases hk
section
variable {w w' w1:World} {x x':BAdr} {b b':BkM} {P P':PoolM} {L L':LogM} {D D':DevM}
theorem bRcU (nx p o:Int) (A:Option Addr) (n c:Nat) (wz:World):(Instr.build 86 #[(2,.int .u8 2),(5,.int .i64 nx),(6,.agg #[.int .i64 p,.int .i64 o,.slice none 0 0,.slice A n c])]).run Tryz.prog wz =
  .ok (.agg #[.int .i64 0,.int .i64 0,.int .u8 2,.int .i64 0,.int .i64 0,.int .i64 nx,.int .i64 p,.int .i64 o,.slice none 0 0,.slice A n c]) wz:=run_build wz _ _ _ (by kernel_rfl)
theorem bSpU (p o:Int) (A:Option Addr) (n c:Nat) (wz:World):(Instr.build 84 #[(0,.int .i64 p),(1,.int .i64 o),(3,.slice A n c)]).run Tryz.prog wz=.ok (.agg #[.int .i64 p,.int .i64 o,.slice none 0 0,.slice A n c]) wz:=run_build wz _ _ _ (by kernel_rfl)
theorem zkMh.uni {X:Option RecM×Int} {e:Ending} (h:zkMh w X e w'):∃ r A1 c1 A2 c2,e=.returned (.tuple #[.agg (recC r A1 c1 A2 c2),.int .i64 X.2])/\(∀ r',X.1=some r'->r'=r/\OwnV w' w.heap.size (.slice A1 r.old.length c1) r.old)/\Kept (fun _=>False) w w':=by
 obtain ⟨hk,h0,h1⟩:=h
 cases hx:X.1 with
 | none=>exact ⟨zRec,none,0,none,0,h0 hx,(fun r' h=>by cases h),hk⟩
 | some r=>
  obtain ⟨A1,c1,A2,c2,e,o1,-,-⟩:=h1 r hx
  exact ⟨r,A1,c1,A2,c2,e,(fun r' h=>by cases h;exact ⟨rfl,o1⟩),hk⟩
def RdAt (w0:World) (X:Option RecM×Int) (v4 v5:Value) (wx:World):Prop:=∃ gr r A1 c1 A2 c2,v4=.pointer (some ⟨gr,0,none⟩)/\v5=.int .i64 X.2/\wx.heap[gr]?=some (.cells (recC r A1 c1 A2 c2) 86 (0,0)) /\
 (∀ r',X.1=some r'->r'=r/\OwnV wx w0.heap.size (.slice A1 r.old.length c1) r.old)/\Kept (fun _=>False) w0 wx/\w0.heap.size<=gr
theorem PoolS.readA {a:Adr} (h:PoolS w a P L D) (hg:LogG L) (q:Nat) (hq:a.q=q) (n:Int):Calls Tryz.prog 48 #[.pointer (some ⟨q,0,none⟩),.int .i64 n] w (zkMh w (L.read D n)):=by
 subst hq
 exact zT6Z _ _ _ _ _ _ _ _ _ h.log hg.ok hg.b hg.r n
theorem zwjC {n:Nat} {m:Int} (h:L.read D (b.done.getD n 0)=(none,m)) (hm:m≠0):z9cn (undoM (n+1) b P L D)=(b,P,L,D,m):=by
 have e:undoM (n+1) b P L D=(b,P,L,D,m):=by
  unfold undoM
  rw [h]
 rw [e]
 unfold z9cn
 rw [if_pos hm]
theorem zbu3 {n:Nat} {r:RecM} (h:L.read D (b.done.getD n 0)=(some r,0)) {C:BkM×PoolM×LogM×DevM×Int} (hC:C=b.chg P L D (backR r (nxM b n))) (hm:C.2.2.2.2≠0):z9cn (undoM (n+1) b P L D)=C:=by
 have e:undoM (n+1) b P L D=C:=by
  unfold undoM
  rw [h]
  dsimp only
  rw [<- hC,if_pos hm]
 rw [e]
 unfold z9cn
 rw [if_pos hm]
theorem zB8X {n:Nat} {r:RecM} (h:L.read D (b.done.getD n 0)=(some r,0)) {C:BkM×PoolM×LogM×DevM×Int} (hC:C=b.chg P L D (backR r (nxM b n))) (hm:C.2.2.2.2=0):undoM (n+1) b P L D=undoM n { C.1 with done:=b.done.take n } C.2.1 C.2.2.1 C.2.2.2.1:=by
 conv=>lhs;unfold undoM
 rw [h]
 dsimp only
 rw [<- hC,if_neg (fun h=>h hm)]
set_option maxRecDepth 100000 in
set_option maxHeartbeats 6400000 in
theorem zFGp (h:BookS w x b P L D) (J:Nat->BkM->PoolM->LogM->DevM->Prop) (hJ:AbJ J) (hJ0:b.inT=true->J b.done.length b P L D) (hdl:b.done.length<=1000000) :
  Calls Tryz.prog 22 #[ptrV x.bk] w (BPost w x (zcT1 b P L D)):=by
 obtain ⟨V,hV⟩:∃ V,V=zcT1 b P L D:=⟨_,rfl⟩
 obtain ⟨POST,hPOST⟩:∃ POST,POST=BPost w x V:=⟨_,rfl⟩
 rw [<- hV,<- hPOST]
 have HPO:=qh (show ∀ n w' x' b1 P1 L1 D1,V=(b1,P1,L1,D1,n)->BTo w x w' x'->BookS w' x' b1 P1 L1 D1->POST (.returned (.int .i64 n)) w' from fun n w' x' b1 P1 L1 D1 h1 h2 h3=>by rw [hPOST,h1];exact ⟨rfl,x',h2,h3⟩)
 have HV:=qh hV
 have H:=qh h
 have HJ:=qh hJ
 have HJ0:=qh hJ0
 have HTH:=qh (z4at h)
 obtain ⟨-,-,-,c3,-⟩:=h.cells
 obtain ⟨t,ht⟩:∃ t,t=b.inT:=⟨_,rfl⟩
 rw [<- ht] at c3
 have HT:=qh ht
 obtain ⟨N,hN⟩:∃ N,N=b.done.length:=⟨_,rfl⟩
 rw [<- hN] at hdl HJ0
 have HN:=qh hN
 unfold ptrV at HTH ⊢
 clear h hJ hJ0 hV hPOST ht hN
 go_enter Tryz.func22,Tryz.ntmps22
 go_wp2_with fail
 refine HTH.out.mono ?_
 rintro e wx ⟨rfl,rfl⟩
 cases t
 ·have HE:=qh (show V=(b,P,L,D,7) from by rw [HV.out];unfold zcT1;rw [if_pos HT.out.symm])
  go_wp2
  exact HPO.out 7 _ x _ _ _ _ HE.out (BTo.refl w x) H.out
 ·have HVV:=qh (show V=z9cn (undoM N b P L D) from by rw [HV.out,HN.out];unfold zcT1;rw [if_neg (by rw [<- HT.out];decide)])
  have HJ1:=qh (HJ0.out HT.out.symm)
  clear HJ0 HV
  go_wp2_with fail
  go_loopw [] (fun wr=>∃ (n:Nat) (x1:BAdr) (b1:BkM) (P1:PoolM) (L1:LogM) (D1:DevM),n<=N/\BTo w x wr x1/\BookS wr x1 b1 P1 L1 D1/\J n b1 P1 L1 D1/\V=z9cn (undoM n b1 P1 L1 D1)) (fun wr=>dvLen wr x.bk)
  case atStart=>exact ⟨N,x,b,P,L,D,Nat.le_refl _,BTo.refl _ _,H.out,HJ1.out,HVV.out⟩
  case round=>
   obtain ⟨n,x1,b1,P1,L1,D1,hn,ht,hs,hj,hv⟩:=hrel
   have HTk:=qh ht
   have HSk:=qh hs
   have HJk:=qh hj
   have HVk:=qh hv
   have HBK:=qh ht.fix.bk
   have hlen:=HJ.out.len n b1 P1 L1 D1 hj
   obtain ⟨dA,dc,hdv,hd1,hd2,hdc⟩:=hs.row.slice
   rw [hlen] at hdv hd1
   have HDC:=qh hdc
   have HDV:=qh hdv
   have HLEN:=qh hlen
   obtain ⟨q0,q1,q2,q3,q4,q5,q6,q7,q8⟩:=hs.cells
   rw [ht.fix.bk] at q1 q6
   rw [ht.fix.a.q] at q1
   rw [hdv] at q6
   clear ht hs hj hv hdc hdv hlen q0 q2 q3 q4 q5 q7 q8
   cases n with
   | zero=>
    have hgd:=HJ.out.good 0 b1 P1 L1 D1 HJk.out
    have hap:=zP7e HSk.out hgd.1.g (endR 4) none 0 none 0 (zPRk 4) hgd.2.1 hgd.2.2 (by decide) (by decide) (fun h=>absurd rfl h) (fun h=>absurd rfl h)
    obtain ⟨A,hA⟩:∃ A,A=b1.app L1 (endR 4):=⟨_,rfl⟩
    rw [<- hA] at hap
    have HVA:=qh (show V=if A.2.2≠0 then (A.1,P1,A.2.1,D1,A.2.2) else ({ A.1 with inT:=false,done:=[] },P1,A.2.1,D1,0) from by rw [HVk.out,hA];rfl)
    rw [HBK.out] at hap
    have HAP:=qh (show Calls Tryz.prog 46 #[.pointer (some ⟨x.bk,0,none⟩),.agg #[.int .i64 0,.int .i64 0,.int .u8 4,.int .i64 0,.int .i64 0,.int .i64 0,.int .i64 0,.int .i64 0,.slice none 0 0,.slice none 0 0]] wr fun e w'=>e=.returned (.int .i64 A.2.2)/\∃ x',BTo wr x1 w' x'/\BookS w' x' A.1 P1 A.2.1 D1 from hap)
    have BR:=bRcE
    obtain ⟨A1,A2,m⟩:=A
    clear hap hgd hA
    go_wp2_with fail
    refine HAP.out.mono ?_
    rintro e w2 ⟨rfl,x2,ht2,hs2⟩
    dsimp only at hs2 ⊢
    have HT2:=qh (HTk.out.trans ht2)
    have HS2:=qh hs2
    have HBK2:=qh (show x2.bk=x.bk from ht2.fix.bk.trans HBK.out)
    clear ht2 hs2 HAP
    by_cases hm:m=0
    ·subst hm
     have HE:=qh (show V=({ A1 with inT:=false,done:=[] },P1,A2,D1,0) from by rw [HVA.out,if_neg (fun h=>h rfl)])
     have HB0:=qh (show w2.heap[x.bk]?=some (.cells (bookC x2 A1) 30 (0,0)) from by rw [<- HBK2.out];exact HS2.out.hb)
     go_wp2_with (refine z2q7 rfl _ _ _ rfl x.bk 3 (.bool false) (bookC x2 A1) rfl rfl HB0.out (by kernel_rfl) (by show 3 < 9;decide) rfl ?_)
     intro w3 hb3 hk3
     have HB3:=qh hb3
     have HK3:=qh (((Kept.refl (fun z=>z=x.bk) w2)).trans' hk3)
     clear hb3 hk3
     go_wp2_with (refine z2q7 rfl _ _ _ rfl x.bk 6 (.slice none 0 0) ((bookC x2 A1).setIfInBounds 3 (.bool false)) rfl rfl HB3.out (by kernel_rfl) (by show 6 < 9;decide) rfl ?_)
     intro w4 hb4 hk4
     have hset:=HS2.out.setDone (w':=w4) (v:=.slice none 0 0) (b':={ A1 with inT:=false,done:=[] }) (LsV.nil _ _) (by rw [HBK2.out];exact hb4) ((HK3.out.trans' hk4).mono (fun z _ e=>.inl (by rw [HBK2.out];exact e))) (.inl rfl)
     have HSET:=qh hset
     clear hb4 hk4 hset
     go_wp2
     exact HPO.out 0 _ _ _ _ _ _ HE.out (HT2.out.trans HSET.out.2) HSET.out.1
    ·have hmb:(m == 0)=false:=by rw [beq_eq_false_iff_ne];exact hm
     have HE:=qh (show V=(A1,P1,A2,D1,m) from by rw [HVA.out,if_pos hm])
     clear hm
     go_wp2
     exact HPO.out m _ _ _ _ _ _ HE.out HT2.out HS2.out
   | succ n=>
    have i1:((n+1:Nat):Int) > 0:=by omega
    have e1:wrap64 (((n+1:Nat):Int) - 1)=(n:Int):=by unfold wrap64;omega
    obtain ⟨X,hX⟩:∃ X,X=L1.read D1 (b1.done.getD n 0):=⟨_,rfl⟩
    have HX:=qh hX
    have HRD:=qh (fun (wz:World) (hk:Kept (fun _=>False) wr wz)=>(HSk.out.keep0 hk).s.readA (HJ.out.good _ b1 P1 L1 D1 HJk.out).1.g x.a.q HTk.out.fix.a.q (b1.done.getD n 0))
    rw [<- hX] at HRD
    obtain ⟨g,off,rfl,-⟩:=HDC.out n _ (show b1.done[n]?=some (b1.done.getD n 0) from by rw [List.getD_eq_getElem?_getD,List.getElem?_eq_getElem (by rw [HLEN.out];omega)];rfl)
    have HCE:=qh (show ∀ w',Kept (fun _=>False) wr w'->∀ k,k < n+1->w'.cell? ⟨g,off+k,none⟩=some (.int .i64 (b1.done.getD k 0)) from fun w' hk k hkn=>by
     obtain ⟨A,c,e,-,-,hc⟩:=(HSk.out.keep0 hk).row.slice
     rw [HDV.out] at e
     injection e with e1 _ _
     obtain ⟨g',off',e2,hc2⟩:=hc k (b1.done.getD k 0) (by rw [List.getD_eq_getElem?_getD,List.getElem?_eq_getElem (by rw [HLEN.out];omega)];rfl)
     rw [<- e1] at e2
     cases e2
     exact hc2)
    have HC:=qh (show ∀ w',Kept (fun _=>False) wr w'->w'.cell? ⟨x.bk,1,none⟩=some (.pointer (some ⟨x.a.q,0,none⟩))/\w'.cell? ⟨x.bk,6,none⟩=some (.slice (some ⟨g,off,none⟩) (n+1) dc)/\w'.cell? ⟨g,off+n,none⟩=some (.int .i64 (b1.done.getD n 0)) from fun w' hk=>by
     obtain ⟨-,y1,-,-,-,-,y6,-⟩:=(HSk.out.keep0 hk).cells
     rw [HBK.out] at y1 y6
     rw [HTk.out.fix.a.q] at y1
     rw [HDV.out] at y6
     exact ⟨y1,y6,HCE.out w' hk n (by omega)⟩)
    obtain ⟨dn,hdn⟩:∃ dn,dn=b1.done.getD n 0:=⟨_,rfl⟩
    rw [<- hdn] at HC HRD
    have HDN:=qh hdn
    clear hX hdn
    have i2:(n:Int) < (n:Int)+1:=by omega
    go_upto_region 7 with fail
    go_cut [4,5] from 20 to 86 (fun v4 v5 wx=>RdAt wr X v4 v5 wx)
    case first=>
     go_wp2_with fail
     refine znCh 17 (fun w'=>Kept (fun _=>False) wr w') (by kernel_rfl) ((Kept.refl (fun _=>False) wr).drew) (fun hH=>?_)
     simp only [List.length_cons,List.length_nil,List.replicate]
     refine tK 0 ?_ (fun w' hw'=>?_) hH ?_
     rotate_left
     ·obtain ⟨k1,k6,kn⟩:=HC.out w' hw'
      go_simp<;>with_reducible rfl
     simp only [Act.put,oZa,oZb,oZc]
     refine tK 1 ?_ (fun w' hw'=>?_) hH ?_
     rotate_left
     ·obtain ⟨k1,k6,kn⟩:=HC.out w' hw'
      go_simp<;>with_reducible rfl
     simp only [Act.put,oZa,oZb,oZc]
     refine tK 2 ?_ (fun w' hw'=>?_) hH ?_
     rotate_left
     ·obtain ⟨k1,k6,kn⟩:=HC.out w' hw'
      go_simp<;>with_reducible rfl
     simp only [Act.put,oZa,oZb,oZc]
     refine tK 3 ?_ (fun w' hw'=>?_) hH ?_
     rotate_left
     ·obtain ⟨k1,k6,kn⟩:=HC.out w' hw'
      go_simp<;>with_reducible rfl
     simp only [Act.put,oZa,oZb,oZc]
     refine tK 4 ?_ (fun w' hw'=>?_) hH ?_
     rotate_left
     ·obtain ⟨k1,k6,kn⟩:=HC.out w' hw'
      go_simp<;>with_reducible rfl
     simp only [Act.put,oZa,oZb,oZc]
     refine tK 5 ?_ (fun w' hw'=>?_) hH ?_
     rotate_left
     ·obtain ⟨k1,k6,kn⟩:=HC.out w' hw'
      go_simp<;>with_reducible rfl
     simp only [Act.put,oZa,oZb,oZc]
     refine tK 6 ?_ (fun w' hw'=>?_) hH ?_
     rotate_left
     ·obtain ⟨k1,k6,kn⟩:=HC.out w' hw'
      go_simp<;>with_reducible rfl
     simp only [Act.put,oZa,oZb,oZc]
     refine tK 7 ?_ (fun w' hw'=>?_) hH ?_
     rotate_left
     ·obtain ⟨k1,k6,kn⟩:=HC.out w' hw'
      go_simp<;>with_reducible rfl
     simp only [Act.put,oZa,oZb,oZc]
     refine tK 8 ?_ (fun w' hw'=>?_) hH ?_
     rotate_left
     ·obtain ⟨k1,k6,kn⟩:=HC.out w' hw'
      go_simp<;>with_reducible rfl
     simp only [Act.put,oZa,oZb,oZc]
     refine tK 9 ?_ (fun w' hw'=>?_) hH ?_
     rotate_left
     ·obtain ⟨k1,k6,kn⟩:=HC.out w' hw'
      go_simp<;>with_reducible rfl
     simp only [Act.put,oZa,oZb,oZc]
     refine tK 10 ?_ (fun w' hw'=>?_) hH ?_
     rotate_left
     ·obtain ⟨k1,k6,kn⟩:=HC.out w' hw'
      go_simp<;>with_reducible rfl
     simp only [Act.put,oZa,oZb,oZc]
     refine forkB 11 15 rfl rfl (by kernel_rfl) (fun K hK=>?_) (fun K hK=>?_)
     ·go_simp
      refine (HRD.out _ ((Kept.refl (fun _=>False) wr).drew)).mono ?_
      rintro e w2 hpost
      obtain ⟨r,A1,c1,A2,c2,rfl,ho,hk⟩:=zkMh.uni hpost
      have HK2:=qh (((Kept.refl (fun _=>False) wr).drew).trans0 hk)
      have HO2:=qh (show ∀ r',X.1=some r'->r'=r/\OwnV w2 wr.heap.size (.slice A1 r.old.length c1) r.old from ho)
      clear hpost ho hk
      go_simp
      refine hK.out _ _ (fun _=>HK2.out) (fun _=>?_)
      simp only [oZa,oZb,oZc]
      clear hK K hH
      refine tK 12 ?_ (fun w' hw'=>?_) HK2.out ?_
      rotate_left
      ·skip
       go_simp<;>with_reducible rfl
      simp only [Act.put,oZa,oZb,oZc]
      refine tK 13 ?_ (fun w' hw'=>?_) HK2.out ?_
      rotate_left
      ·skip
       go_simp<;>with_reducible rfl
      simp only [Act.put,oZa,oZb,oZc]
      refine tK 14 ?_ (fun w' hw'=>?_) HK2.out ?_
      rotate_left
      ·skip
       go_simp<;>with_reducible rfl
      simp only [Act.put,oZa,oZb,oZc]
      refine stepL 15 rfl (by kernel_rfl) (fun K hK=>?_)
      refine zhQZ rfl 86 rfl zRecC zzWm ?_
      intro gr w3 hg1 hg2 hb3 hk3
      have HK3:=qh (HK2.out.trans0 hk3)
      have HB3:=qh hb3
      have HL3:=qh (show wr.heap.size<=gr from Nat.le_trans HK2.out.size hg1)
      have HO3:=qh (show ∀ r',X.1=some r'->r'=r/\OwnV w3 wr.heap.size (.slice A1 r.old.length c1) r.old/\(∀ x,(Value.slice A1 r.old.length c1).ownBlock=some x->x≠gr) from fun r' h=>by
       obtain ⟨h1,h2⟩:=HO2.out r' h
       exact ⟨h1,h2.keep hk3 (fun _ _=>id),fun x hx=>by have:=(h2.base_le hx).2;omega⟩)
      clear hg1 hg2 hb3 hk3
      refine hK.out _ _ (fun _=>HK3.out) (fun _=>?_)
      simp only [oZa,oZb,oZc]
      clear hK K
      refine stepL 16 rfl (by kernel_rfl) (fun K hK=>?_)
      refine zSwC rfl 86 _ _ rfl gr (recC r A1 c1 A2 c2) zRecC rfl rfl HB3.out zWmC rfl (zh6u _ _ _ _ _) ?_
      intro w4 hb4 hk4
      have HB4:=qh hb4
      have HK4:=qh (HK3.out.new hk4 (fun z hz=>by subst hz;exact HL3.out))
      have HO4:=qh (show ∀ r',X.1=some r'->r'=r/\OwnV w4 wr.heap.size (.slice A1 r.old.length c1) r.old from fun r' h=>by
       obtain ⟨h1,h2,h3⟩:=HO3.out r' h
       exact ⟨h1,h2.keep hk4 h3⟩)
      clear hb4 hk4
      refine hK.out _ _ (fun _=>HK4.out) (fun _=>?_)
      simp only [oZa,oZb,oZc]
      clear hK K
      refine stepL 17 rfl (by kernel_rfl) (fun K hK=>?_)
      go_simp
      refine hK.out _ _ (fun h=>absurd rfl h) (fun _=>?_)
      simp only [oZa,oZb,oZc]
      clear hK K
      refine doneL (by kernel_rfl) ?_ _
      go_wp2
      go_meet
      case rel=>exact ⟨gr,r,A1,c1,A2,c2,rfl,rfl,HB4.out,HO4.out,HK4.out,HL3.out⟩
     ·refine zhQZ rfl 86 rfl zRecC zzWm ?_
      intro gr w2 hg1 hg2 hb2 hk2
      have HK2:=qh (((Kept.refl (fun _=>False) wr).drew).trans0 hk2)
      have HB2:=qh hb2
      have HL2:=qh (show wr.heap.size<=gr from hg1)
      have HG2:=qh hg2
      clear hg1 hg2 hb2 hk2
      refine hK.out _ _ (fun _=>HK2.out) (fun _=>?_)
      simp only [oZa,oZb,oZc]
      clear hK K hH
      refine stepL 11 rfl (by kernel_rfl) (fun K hK=>?_)
      go_simp
      refine (HRD.out _ HK2.out).mono ?_
      rintro e w3 hpost
      obtain ⟨r,A1,c1,A2,c2,rfl,ho,hk⟩:=zkMh.uni hpost
      have HK3:=qh (HK2.out.trans0 hk)
      have HB3:=qh (hk.heap HB2.out id)
      have HO3:=qh (show ∀ r',X.1=some r'->r'=r/\OwnV w3 wr.heap.size (.slice A1 r.old.length c1) r.old/\(∀ x,(Value.slice A1 r.old.length c1).ownBlock=some x->x≠gr) from fun r' h=>by
       obtain ⟨h1,h2⟩:=ho r' h
       exact ⟨h1,h2.low (HK2.out.size),fun x hx=>by have:=(h2.base_le hx).1;have:=HG2.out;omega⟩)
      clear hpost ho hk
      go_simp
      refine hK.out _ _ (fun _=>HK3.out) (fun _=>?_)
      simp only [oZa,oZb,oZc]
      clear hK K
      refine tK 12 ?_ (fun w' hw'=>?_) HK3.out ?_
      rotate_left
      ·skip
       go_simp<;>with_reducible rfl
      simp only [Act.put,oZa,oZb,oZc]
      refine tK 13 ?_ (fun w' hw'=>?_) HK3.out ?_
      rotate_left
      ·skip
       go_simp<;>with_reducible rfl
      simp only [Act.put,oZa,oZb,oZc]
      refine tK 14 ?_ (fun w' hw'=>?_) HK3.out ?_
      rotate_left
      ·skip
       go_simp<;>with_reducible rfl
      simp only [Act.put,oZa,oZb,oZc]
      refine stepL 16 rfl (by kernel_rfl) (fun K hK=>?_)
      refine zSwC rfl 86 _ _ rfl gr (recC r A1 c1 A2 c2) zRecC rfl rfl HB3.out zWmC rfl (zh6u _ _ _ _ _) ?_
      intro w4 hb4 hk4
      have HB4:=qh hb4
      have HK4:=qh (HK3.out.new hk4 (fun z hz=>by subst hz;exact HL2.out))
      have HO4:=qh (show ∀ r',X.1=some r'->r'=r/\OwnV w4 wr.heap.size (.slice A1 r.old.length c1) r.old from fun r' h=>by
       obtain ⟨h1,h2,h3⟩:=HO3.out r' h
       exact ⟨h1,h2.keep hk4 h3⟩)
      clear hb4 hk4
      refine hK.out _ _ (fun _=>HK4.out) (fun _=>?_)
      simp only [oZa,oZb,oZc]
      clear hK K
      refine stepL 17 rfl (by kernel_rfl) (fun K hK=>?_)
      go_simp
      refine hK.out _ _ (fun h=>absurd rfl h) (fun _=>?_)
      simp only [oZa,oZb,oZc]
      clear hK K
      refine doneL (by kernel_rfl) ?_ _
      go_wp2
      go_meet
      case rel=>exact ⟨gr,r,A1,c1,A2,c2,rfl,rfl,HB4.out,HO4.out,HK4.out,HL2.out⟩
    case rest=>
     obtain ⟨gr,rq,A1,c1,A2,c2,rfl,rfl,hb,ho,hk,hge⟩:=hcut
     have HB:=qh hb
     have HK:=qh hk
     have HGE:=qh hge
     have HRE:=qh (show (X.1=none->X.2≠0)/\∀ r,X.1=some r->X.2=0 from by rw [HX.out];exact zEMH)
     obtain ⟨X1,m⟩:=X
     dsimp only at ho HRE ⊢
     clear hb hk hge
     cases X1 with
     | none=>
      have hm:m≠0:=HRE.out.1 rfl
      have HE:=qh (show V=(b1,P1,L1,D1,m) from by rw [HVk.out];exact zwjC HX.out.symm hm)
      have hmb:(m != 0)=true:=by rw [bne_iff_ne];exact hm
      clear ho hm
      go_wp2
      exact HPO.out m _ _ _ _ _ _ HE.out (HTk.out.keep0 HK.out) (HSk.out.keep0 HK.out)
     | some r=>
      have hm:m=0:=HRE.out.2 r rfl
      subst hm
      obtain ⟨rfl,hown⟩:=ho r rfl
      have HOW:=qh hown
      clear ho hown
      have HON:=qh (fun (C:BkM×PoolM×LogM×DevM×Int) (hC:C=b1.chg P1 L1 D1 (backR r (nxM b1 n))) (hm:C.2.2.2.2≠0)=>show V=C from by
       rw [HVk.out];exact zbu3 HX.out.symm hC hm)
      have HOF:=qh (fun (C:BkM×PoolM×LogM×DevM×Int) (hC:C=b1.chg P1 L1 D1 (backR r (nxM b1 n))) (hm:C.2.2.2.2=0)=>show V=z9cn (undoM n { C.1 with done:=b1.done.take n } C.2.1 C.2.2.1 C.2.2.2.1) from by
       rw [HVk.out,zB8X HX.out.symm hC hm])
      have HRC:=qh (show (L1.read D1 (b1.done.getD n 0)).1=some r from by have:=HX.out;rw [<- this])
      have HCC:=qh (HJ.out.rcd n b1 P1 L1 D1 r HJk.out HRC.out)
      have HNX:=qh (HJ.out.next n b1 P1 L1 D1 r HJk.out HRC.out)
      have HGD:=qh (HJ.out.good (n+1) b1 P1 L1 D1 HJk.out)
      clear HX HRE HVk
      go_upto_if 51 with fail
      obtain ⟨nx,hnx⟩:∃ nx,nx=nxM b1 n:=⟨_,rfl⟩
      have HNXM:=qh hnx
      clear hnx
      go_cut [6] from 52 to 59 (fun v6 wx=>v6=.int .i64 nx/\wc=wx)
      case first=>
       have q6:=(HC.out wc HK.out).2.1
       cases n with
       | zero=>
        go_wp2
        go_meet
        case rel=>exact ⟨by rw [HNXM.out];rfl,rfl⟩
       | succ k=>
        have j1:((k+1:Nat):Int) > 0:=by omega
        have e2:wrap64 (((k+1:Nat):Int) - 1)=(k:Int):=by unfold wrap64;omega
        have j2:(k:Int) < (k:Int)+1+1:=by omega
        have qk:=HCE.out wc HK.out k (by omega)
        have e3:b1.done.getD k 0=nx:=by rw [HNXM.out];rfl
        rw [e3] at qk
        clear e3
        go_wp2
        go_meet
        case rel=>exact ⟨rfl,rfl⟩
      case rest=>
       obtain ⟨rfl,rfl⟩:=hcut
       have d6:wc.cell? ⟨gr,6,none⟩=some (.int .i64 r.blk):=zcjX HB.out rfl
       have d7:wc.cell? ⟨gr,7,none⟩=some (.int .i64 r.off):=zcjX HB.out rfl
       have d8:wc.cell? ⟨gr,8,none⟩=some (.slice A1 r.old.length c1):=zcjX HB.out rfl
       have BS:=bSpU
       have BR:=bRcU
       obtain ⟨ol,hol⟩:∃ ol,ol=r.old.length:=⟨_,rfl⟩
       rw [<- hol] at d8
       have HOL:=qh hol
       clear hol
       go_wp2_with (refine zNko rfl 86 rfl zRecC zzWm ?_)
       intro gy wa l1 m1 hb1 hk1
       have HK1:=qh (HK.out.trans0 hk1)
       have HL1:=qh (show wr.heap.size<=gy from Nat.le_trans HK.out.size l1)
       have HO1:=qh (show OwnV wa wr.heap.size (.slice A1 r.old.length c1) r.old/\(∀ x,(Value.slice A1 r.old.length c1).ownBlock=some x->x≠gy) from ⟨HOW.out.keep hk1 (fun _ _=>id),fun x hx=>by have:=(HOW.out.base_le hx).2;omega⟩)
       have HB1:=qh hb1
       clear l1 m1 hb1 hk1
       go_wp2_with (refine zxQF rfl 86 _ _ rfl gy (recC (backR r nx) none 0 A1 c1) zRecC rfl (by rw [HOL.out];rfl) HB1.out zWmC rfl (zh6u _ _ _ _ _) ?_)
       intro wb hb2 hk2
       have HB2:=qh (z89M hb2)
       have HK2:=qh (HK1.out.new hk2 (fun z hz=>by subst hz;exact HL1.out))
       have HO2:=qh (show OwnV wb wr.heap.size (.slice A1 r.old.length c1) r.old from HO1.out.1.keep hk2 HO1.out.2)
       clear hb2 hk2 d6 d7 d8
       obtain ⟨C,hC⟩:∃ C,C=b1.chg P1 L1 D1 (backR r nx):=⟨_,rfl⟩
       have HCH:=qh (show Calls Tryz.prog 49 #[.pointer (some ⟨x.bk,0,none⟩),.agg (recC (backR r nx) none 0 A1 c1)] wb fun e w'=>e=.returned (.int .i64 C.2.2.2.2)/\∃ x',BTo wb x1 w' x'/\BookS w' x' C.1 C.2.1 C.2.2.1 C.2.2.2.1 from by
        obtain ⟨⟨gg,gn,gu,gf,gl⟩,⟨gi1,gi2⟩⟩:=HGD.out
        obtain ⟨k1,k2,k3,k4⟩:=HCC.out
        rw [<- HNXM.out] at k3 k4
        rw [hC]
        have:=zDiA (HSk.out.keep0 HK2.out) gg (backR r nx) k4 gn gu gf gl none 0 A1 c1 k3 gi1 gi2 (Nat.zero_le _) k2 (fun h=>absurd rfl h) HO2.out.rd k1 (fun b o e hlt hK=>by
         obtain ⟨b',o',e',-⟩:=HO2.out.rd k1
         subst e
         have hx:=(HO2.out.base_le (x:=b) rfl).1
         have:=HSk.out.lt hK
         omega)
        rw [HBK.out] at this
        exact this)
       have HCX:=qh (show C=b1.chg P1 L1 D1 (backR r (nxM b1 n)) from by rw [hC,HNXM.out])
       have HDN2:=qh (show C.1.done=b1.done from by rw [hC,z8bI];exact (zAEq _ _ _).2.2.1)
       rw [<- HCX.out] at HNX
       have HON1:=qh (HON.out C HCX.out)
       have HOF1:=qh (HOF.out C HCX.out)
       obtain ⟨C1,C2,C3,C4,m⟩:=C
       dsimp only at HCH HNX HON1 HOF1 HDN2
       clear hC HCX HON HOF HCC HGD HRC
       obtain ⟨y0,y1,y2,y3,y4,y5,y6,y7,y8,y9⟩:=HB2.out
       go_wp2_with fail
       refine HCH.out.mono ?_
       rintro e w2 ⟨rfl,x2,ht2,hs2⟩
       have HT2:=qh ((HTk.out.keep0 HK2.out).trans ht2)
       have HS2:=qh hs2
       have HBK2:=qh (show x2.bk=x.bk from ht2.fix.bk.trans HBK.out)
       clear ht2 hs2 HCH y0 y1 y2 y3 y4 y5 y6 y7 y8 y9
       by_cases hm:m=0
       ·subst hm
        have HE:=qh (HOF1.out rfl)
        have HJN:=qh (HNX.out rfl)
        obtain ⟨A,dc2,hdv,-,hdc,hcc⟩:=HS2.out.row.slice
        rw [HDN2.out,HLEN.out] at hdv
        have q6:w2.cell? ⟨x.bk,6,none⟩=some (.slice A (n+1) dc2):=by
         obtain ⟨-,-,-,-,-,-,y6,-⟩:=HS2.out.cells
         rw [HBK2.out,hdv] at y6
         exact y6
        obtain ⟨g2,off2,rfl,-⟩:=hcc n (b1.done.getD n 0) (by rw [HDN2.out,List.getD_eq_getElem?_getD,List.getElem?_eq_getElem (by rw [HLEN.out];omega)];rfl)
        have HDV2:=qh hdv
        have HB0:=qh (show w2.heap[x.bk]?=some (.cells (bookC x2 C1) 30 (0,0)) from by rw [<- HBK2.out];exact HS2.out.hb)
        have HROW:=qh (show LsV w2 0 (.slice (some ⟨g2,off2,none⟩) n dc2) (b1.done.take n) from by
         have h:=HS2.out.row
         rw [hdv,HDN2.out] at h
         exact h.takeN (by rw [HLEN.out];omega) (by intro h;cases h))
        have HCP:=qh (show n<=dc2/\dc2<=9223372036854775807 from by
         obtain ⟨A,c,e,h1,h2,-⟩:=HS2.out.row.slice
         rw [hdv] at e
         injection e with _ _ e3
         rw [HDN2.out,HLEN.out] at h1
         omega)
        have HQ0:=qh ((HC.out wr (Kept.refl _ _)).2.1)
        clear hdv hdc hcc
        have s1:(n:Int)<=(dc2:Int):=by have:=HCP.out;omega
        have s2:(0:Int)<=(n:Int):=by omega
        go_wp2_with (refine z2q7 rfl _ _ _ rfl x.bk 6 (.slice (some ⟨g2,off2,none⟩) n dc2) (bookC x2 C1) rfl rfl HB0.out (by kernel_rfl) (by show 6 < 9;decide) rfl ?_)
        intro w3 hb3 hk3
        have hset:=HS2.out.setDone (w':=w3) (v:=.slice (some ⟨g2,off2,none⟩) n dc2) (b':={ C1 with done:=b1.done.take n }) (HROW.out.keep hk3 (fun z hz e=>by
         have hz':x2.dv.ownBlock=some z:=by rw [HDV2.out];exact hz
         exact (HS2.out.row.T hz').ne HS2.out.tbk (by decide) (by rw [e,HBK2.out]))) (by rw [HBK2.out];exact hb3) (hk3.mono (fun z _ e=>.inl (by rw [HBK2.out];exact e))) (.inr (.inl (by rw [HDV2.out];rfl)))
        have HSET:=qh hset
        have HQ3:=qh (show w3.cell? ⟨x.bk,6,none⟩=some (.slice (some ⟨g2,off2,none⟩) n dc2) from zcjX hb3 rfl)
        clear hb3 hk3 hset q6 s1 s2
        go_wp2
        go_roundw
        case rel=>exact ⟨n,_,_,_,_,_,by omega,HT2.out.trans HSET.out.2,HSET.out.1,HJN.out,HE.out⟩
        case measure=>unfold dvLen;rw [HQ3.out,HQ0.out];dsimp only;omega
       ·have hmb:(m != 0)=true:=by rw [bne_iff_ne];exact hm
        have HE:=qh (HON1.out hm)
        clear hm
        go_wp2
        exact HPO.out m _ _ _ _ _ _ HE.out HT2.out HS2.out
end
end Go.Proofs.YtfgagakepmigbaaGreat
