/-
  No statement is proved here.
-/
import Derived.Test.YtfgagakepmigbaaGreatJBkr
namespace Go.Proofs.YtfgagakepmigbaaGreat
open Go.RowKit
def endR (k:UInt8):RecM:=⟨0,0,k,0,0,0,0,0,[],[]⟩
def zylU (b:BkM) (P:PoolM) (L:LogM) (D:DevM):BkM×PoolM×LogM×DevM×Int:=
 if b.inT=false then (b,P,L,D,7) else
 if (b.app L (endR 3)).2.2≠0 then ((b.app L (endR 3)).1,P,(b.app L (endR 3)).2.1,D,(b.app L (endR 3)).2.2) else
 if ((b.app L (endR 3)).2.1.force D).2.2≠0 then ((b.app L (endR 3)).1,P,(b.app L (endR 3)).2.1.force D) else
 ({ (b.app L (endR 3)).1 with inT:=false,done:=[] },P,(b.app L (endR 3)).2.1.force D)
theorem bRcE (k:Int) (wz:World):(Instr.build 86 #[(2,.int .u8 k)]).run Tryz.prog wz=.ok (.agg #[.int .i64 0,.int .i64 0,.int .u8 k,.int .i64 0,.int .i64 0,.int .i64 0,.int .i64 0,.int .i64 0,.slice none 0 0,.slice none 0 0]) wz:=run_build wz _ _ _ (by kernel_rfl)
theorem zPRk (k:UInt8):RecOk (endR k):=by
 have z0:isI 0:=by unfold isI;decide
 exact ⟨z0,z0,z0,z0,z0,z0,z0⟩
section
variable {w w' w1:World} {x x':BAdr} {b b':BkM} {P P':PoolM} {L L':LogM} {D D':DevM}
set_option maxRecDepth 100000 in
theorem zPQs (h:BookS w x b P L D) (hg:LogG L) (i1:isI b.tx) (i2:isI b.last) (gb:Nat) (hgb:w.heap[gb]?=some (.cells #[ptrV x.bk] 24 (0,0))) :
  Calls Tryz.prog 45 #[.pointer (some ⟨gb,0,none⟩)] w fun e w'=>e=.returned (.int .i64 (b.app L (endR 3)).2.2)/\∃ x',BTo w x w' x'/\BookS w' x' (b.app L (endR 3)).1 P (b.app L (endR 3)).2.1 D:=by
 have HA:=qh (zP7e h hg (endR 3) none 0 none 0 (zPRk 3) i1 i2 (by decide) (by decide) (fun h=>absurd rfl h) (fun h=>absurd rfl h))
 have d0:w.cell? ⟨gb,0,none⟩=some (.pointer (some ⟨x.bk,0,none⟩)):=zcjX hgb rfl
 have BR:=bRcE
 obtain ⟨V,hV⟩:∃ V,V=b.app L (endR 3):=⟨_,rfl⟩
 rw [<- hV] at HA ⊢
 have HAA:=qh (show Calls Tryz.prog 46 #[.pointer (some ⟨x.bk,0,none⟩),.agg #[.int .i64 0,.int .i64 0,.int .u8 3,.int .i64 0,.int .i64 0,.int .i64 0,.int .i64 0,.int .i64 0,.slice none 0 0,.slice none 0 0]] w fun e w'=>e=.returned (.int .i64 V.2.2)/\∃ x',BTo w x w' x'/\BookS w' x' V.1 P V.2.1 D from HA.out)
 clear h hg hgb hV i1 i2 HA
 go_enter Tryz.func45,Tryz.ntmps45
 go_wp2_with fail
 refine HAA.out.mono ?_
 rintro e w1 ⟨rfl,hx⟩
 have HX:=qh hx
 clear hx HAA
 go_wp2
 go_ret
 exact ⟨rfl,HX.out⟩
set_option maxRecDepth 100000 in
set_option maxHeartbeats 1600000 in
theorem zWgQ (h:BookS w x b P L D) (hg:LogG L) (i1:isI b.tx) (i2:isI b.last) (hg1:(b.app L (endR 3)).2.2=0->LogG (b.app L (endR 3)).2.1) :
  Calls Tryz.prog 20 #[ptrV x.bk] w (BPost w x (zylU b P L D)):=by
 obtain ⟨V,hV⟩:∃ V,V=zylU b P L D:=⟨_,rfl⟩
 obtain ⟨POST,hPOST⟩:∃ POST,POST=BPost w x V:=⟨_,rfl⟩
 rw [<- hV,<- hPOST]
 have HPO:=qh (show ∀ n w' x' b1 P1 L1 D1,V=(b1,P1,L1,D1,n)->BTo w x w' x'->BookS w' x' b1 P1 L1 D1->POST (.returned (.int .i64 n)) w' from fun n w' x' b1 P1 L1 D1 h1 h2 h3=>by rw [hPOST,h1];exact ⟨rfl,x',h2,h3⟩)
 have HV:=qh hV
 have H:=qh h
 have HARG:=qh (⟨hg,⟨i1,i2⟩,hg1⟩:LogG L/\(isI b.tx/\isI b.last)/\((b.app L (endR 3)).2.2=0->LogG (b.app L (endR 3)).2.1))
 have hmf:∀ (fn:Fn) (first cap:Array Value) (w:World),(Instr.makeFunc fn first cap).run Tryz.prog w=.ok (.func fn first cap) w:=fun _ _ _ _=>rfl
 obtain ⟨t,ht⟩:∃ t,t=b.inT:=⟨_,rfl⟩
 have HT:=qh ht
 clear h hg i1 i2 hg1 hV hPOST ht
 unfold ptrV
 go_enter Tryz.func20,Tryz.ntmps20
 go_wp2_with (refine znBH rfl 24 _ rfl (.pointer (some ⟨x.bk,0,none⟩)) rfl ?_)
 intro gb wa l1 m1 hb1 hk1
 have HB:=qh (show wa.heap[gb]?=some (.cells #[ptrV x.bk] 24 (0,0)) from hb1)
 have HK1:=qh hk1
 have HS1:=qh (H.out.keep0 hk1)
 have HTH:=qh (z4at HS1.out)
 unfold ptrV at HTH
 obtain ⟨-,c1,-,c3,-⟩:=HS1.out.cells
 rw [<- HT.out] at c3
 have d0:wa.cell? ⟨gb,0,none⟩=some (.pointer (some ⟨x.bk,0,none⟩)):=zcjX hb1 rfl
 clear hb1 hk1
 go_wp2_with fail
 refine HTH.out.mono ?_
 rintro e wx ⟨rfl,rfl⟩
 cases t
 ·have HE:=qh (show V=(b,P,L,D,7) from by rw [HV.out];unfold zylU;rw [if_pos HT.out.symm])
  go_wp2
  exact HPO.out 7 _ x _ _ _ _ HE.out ((BTo.refl w x).keep0 HK1.out) HS1.out
 ·obtain ⟨A,hA⟩:∃ A,A=b.app L (endR 3):=⟨_,rfl⟩
  have HVV:=qh (show V=if A.2.2≠0 then (A.1,P,A.2.1,D,A.2.2) else if (A.2.1.force D).2.2≠0 then (A.1,P,A.2.1.force D) else ({ A.1 with inT:=false,done:=[] },P,A.2.1.force D) from by
   rw [HV.out,hA];unfold zylU;rw [if_neg (by rw [<- HT.out];decide)])
  obtain ⟨F,hF⟩:∃ F:Array Value,F=#[FnV.v ⟨45,#[],#[.pointer (some ⟨gb,0,none⟩)]⟩,FnV.v ⟨47,#[.pointer (some ⟨x.a.q,0,none⟩)],#[]⟩]:=⟨_,rfl⟩
  have HEACH:=qh (show ∀ (wc:World) (gf:Nat),Kept (fun _=>False) wa wc->wc.heap[gf]?=some (.cells F 41 (0,0))->Calls Tryz.prog 44 #[.slice (some ⟨gf,0,none⟩) 2 2] wc fun e w'=>∃ n,e=.returned (.int .i64 n)/\∃ x' b' L' D',BTo w x w' x'/\BTo wc x w' x'/\BookS w' x' b' P L' D'/\b'.inT=true/\(n≠0->V=(b',P,L',D',n))/\(n=0->V=({ b' with inT:=false,done:=[] },P,L',D',0)) from fun wc gf hkc hf=>by
   obtain ⟨hg,⟨i1,i2⟩,hg1⟩:=HARG.out
   rw [<- hA] at hg1
   have hs:=HS1.out.keep0 hkc
   have hb:=hkc.heap HB.out id
   have hta:BTo w x wc x:=(BTo.refl w x).keep0 (HK1.out.trans0 hkc)
   have far:∀ (wz:World) (y:Nat) (cs:Array Value) (t:TypeId) (b:BkM) (P:PoolM) (L:LogM) (D:DevM) (xz:BAdr),BookS wz xz b P L D->wz.heap[y]?=some (.cells cs t (0,0))->(t=24\/t=41)->¬ xz.K y:=fun wz y cs t b P L D xz hz hy ht=>by
    rcases ht with rfl | rfl<;>exact hz.notT ⟨_,_,hy⟩ (by decide) (by decide) (by decide) (by decide) (by decide) (by decide) (by decide) (by decide)
   have hin:A.1.inT=true:=by rw [hA,(zAEq b L (endR 3)).2.1];exact HT.out.symm
   have hc1:=zPQs hs hg i1 i2 gb hb
   rw [<- hA] at hc1
   refine each2 wc gf _ _ _ (by rw [<- hF];exact hf) ⟨fun wz=>by kernel_rfl,hc1.mono ?_⟩
   rintro e w1 ⟨rfl,x1,ht1,hs1⟩
   have hf1:w1.heap[gf]?=some (.cells F 41 (0,0)):=ht1.k.heap hf (far _ _ _ _ _ _ _ _ _ hs hf (.inr rfl))
   refine ⟨_,rfl,by rw [<- hF];exact hf1,fun hne=>⟨x1,A.1,_,_,hta.trans ht1,ht1,hs1,hin,fun _=>by rw [HVV.out,if_pos hne],fun h=>absurd h hne⟩,fun h0=>⟨fun wz=>by kernel_rfl,?_⟩⟩
   refine (hs1.s.forceA (hg1 h0) x.a.q ht1.fix.a.q).mono ?_
   rintro e w2 ⟨rfl,a2,s2,t2⟩
   obtain ⟨hs2,ht2⟩:=hs1.pool t2 s2
   have hf2:=ht2.k.heap hf1 (far _ _ _ _ _ _ _ _ _ hs1 hf1 (.inr rfl))
   have hfin:∃ x' b' L' D',BTo w x w2 x'/\BTo wc x w2 x'/\BookS w2 x' b' P L' D'/\b'.inT=true/\((A.2.1.force D).2.2≠0->V=(b',P,L',D',(A.2.1.force D).2.2))/\((A.2.1.force D).2.2=0->V=({ b' with inT:=false,done:=[] },P,L',D',0)):=
    ⟨_,A.1,_,_,(hta.trans ht1).trans ht2,ht1.trans ht2,hs2,hin,fun hne=>by rw [HVV.out,if_neg (fun h=>h h0),if_pos hne],fun hz=>by rw [HVV.out,if_neg (fun h=>h h0),if_neg (fun h=>h hz),<- hz]⟩
   exact ⟨_,rfl,by rw [<- hF];exact hf2,fun _=>hfin,fun h3=>by rw [h3] at hfin;exact hfin⟩)
  have HF:=qh hF
  clear hF HVV HV HARG hA A
  have HEC:=qh (HEACH.out (wa.alloc (.cells F 41)) wa.heap.size ((Kept.refl (fun _=>False) wa).alloc _) (heap_alloc_new wa _))
  have hkal:Kept (fun _=>False) wa (wa.alloc (.cells F 41)):=(Kept.refl (fun _=>False) wa).alloc _
  have HGB:=qh (hkal.heap HB.out id)
  have HNB:=qh (show ¬ x.K gb from (HS1.out.keep0 hkal).notT (y:=gb) ⟨_,_,HGB.out⟩ (by decide) (by decide) (by decide) (by decide) (by decide) (by decide) (by decide) (by decide))
  rw [HF.out] at HEC HGB
  clear hkal HEACH
  go_wp2_with fail
  refine HEC.out.mono ?_
  rintro e w2 ⟨n,rfl,x2,b2,L2,D2,ht,htc,hs,hin,hv1,hv2⟩
  have HT2:=qh ht
  have HS2:=qh hs
  have HV1:=qh hv1
  have HV2:=qh hv2
  have HGB2:=qh (htc.k.heap HGB.out HNB.out)
  have HBK:=qh htc.fix.bk
  clear ht htc hs hv1 hv2 hin HEC HGB c1 c3 d0
  by_cases hn:n=0
  ·subst hn
   have HE:=qh (HV2.out rfl)
   have HS0:=qh (show (w2.drew).heap[gb]?=some (.cells #[.pointer (some ⟨x.bk,0,none⟩)] 24 (0,0)) from HGB2.out)
   have HC:=qh (fun (w':World) (h:w'.heap[gb]?=some (.cells #[.pointer (some ⟨x.bk,0,none⟩)] 24 (0,0)))=>show w'.cell? ⟨gb,0,none⟩=some (.pointer (some ⟨x.bk,0,none⟩)) from zcjX h rfl)
   have HB0:=qh (show (w2.drew).heap[x.bk]?=some (.cells (bookC x2 b2) 30 (0,0)) from by rw [<- HBK.out];exact HS2.out.hb)
   have hgx:gb≠x.bk:=by have:=zvKu H.out.hb;omega
   go_wp2_with fail
   refine znCh 7 (fun w'=>w'.heap[gb]?=some (.cells #[.pointer (some ⟨x.bk,0,none⟩)] 24 (0,0))) (by kernel_rfl) HS0.out (fun hH=>?_)
   simp only [List.length_cons,List.length_nil,List.replicate]
   refine tK 0 ?_ (fun w' hw'=>?_) hH ?_
   rotate_left
   ·have k0:=HC.out w' hw'
    go_simp<;>with_reducible rfl
   simp only [Act.put,oZa,oZb,oZc]
   refine tK 1 ?_ (fun w' hw'=>?_) hH ?_
   rotate_left
   ·have k0:=HC.out w' hw'
    go_simp<;>with_reducible rfl
   simp only [Act.put,oZa,oZb,oZc]
   refine tK 2 ?_ (fun w' hw'=>?_) hH ?_
   rotate_left
   ·have k0:=HC.out w' hw'
    go_simp<;>with_reducible rfl
   simp only [Act.put,oZa,oZb,oZc]
   refine tK 3 ?_ (fun w' hw'=>?_) hH ?_
   rotate_left
   ·have k0:=HC.out w' hw'
    go_simp<;>with_reducible rfl
   simp only [Act.put,oZa,oZb,oZc]
   refine stepL 4 rfl (by kernel_rfl) (fun K hK=>?_)
   refine zRRc rfl _ _ _ rfl x.bk 3 (.bool false) (bookC x2 b2) rfl rfl HB0.out (by kernel_rfl) (by show 3 < 9;decide) rfl ?_
   intro w3 hb3 hk3
   have HB3:=qh hb3
   have HK3:=qh (((Kept.refl (fun z=>z=x.bk) w2).drew).trans' hk3)
   have HS3:=qh (hk3.heap HS0.out (fun e=>hgx e))
   clear hb3 hk3
   refine hK.out _ _ (fun _=>HS3.out) (fun _=>?_)
   simp only [oZa,oZb,oZc]
   clear hK K hH
   refine tK 5 ?_ (fun w' hw'=>?_) HS3.out ?_
   rotate_left
   ·skip
    go_simp<;>with_reducible rfl
   simp only [Act.put,oZa,oZb,oZc]
   refine tK 6 ?_ (fun w' hw'=>?_) HS3.out ?_
   rotate_left
   ·skip
    go_simp<;>with_reducible rfl
   simp only [Act.put,oZa,oZb,oZc]
   refine stepL 7 rfl (by kernel_rfl) (fun K hK=>?_)
   refine zRRc rfl _ _ _ rfl x.bk 6 (.slice none 0 0) ((bookC x2 b2).setIfInBounds 3 (.bool false)) rfl rfl HB3.out (by kernel_rfl) (by show 6 < 9;decide) rfl ?_
   intro w4 hb4 hk4
   have hset:=HS2.out.setDone (w':=w4) (v:=.slice none 0 0) (b':={ b2 with inT:=false,done:=[] }) (LsV.nil _ _) (by rw [HBK.out];exact hb4) ((HK3.out.trans' hk4).mono (fun z _ e=>.inl (by rw [HBK.out];exact e))) (.inl rfl)
   have HSET:=qh hset
   clear hb4 hk4 hset
   refine hK.out _ _ (fun h=>absurd rfl h) (fun _=>?_)
   simp only [oZa,oZb,oZc]
   clear hK K
   refine doneL (by kernel_rfl) ?_ _
   go_wp2
   exact HPO.out 0 _ _ _ _ _ _ HE.out (HT2.out.trans HSET.out.2) HSET.out.1
  ·have HE:=qh (HV1.out hn)
   have hnb:(n == 0)=false:=by rw [beq_eq_false_iff_ne];exact hn
   clear hn
   go_wp2
   exact HPO.out n _ _ _ _ _ _ HE.out HT2.out HS2.out
end
def zZaF (b:BkM) (P:PoolM) (L:LogM) (D:DevM):BkM×PoolM×LogM×DevM×Int:=if L.room < b.count*204 then zmrj b P L D else (b,P,L,D,0)
def zKmR (b:BkM) (P:PoolM) (L:LogM) (D:DevM):BkM×PoolM×LogM×DevM×Int:=
 if b.inT=true then (b,P,L,D,7) else
 if (zZaF b P L D).2.2.2.2≠0 then zZaF b P L D else
 ({ (zZaF b P L D).1 with inT:=true,tx:=(zZaF b P L D).2.2.1.fin,last:=0,done:=[],owed:=35 },(zZaF b P L D).2.1,(zZaF b P L D).2.2.1,(zZaF b P L D).2.2.2.1,0)
section
variable {w w' w1:World} {x x':BAdr} {b b':BkM} {P P':PoolM} {L L':LogM} {D D':DevM}
structure PointG (b:BkM) (P:PoolM) (L:LogM) (D:DevM):Prop where
 g:LogG L
 n:PoolN P
 g2:LogG (flushM P (L.force D).1 (L.force D).2.1).2.1
 n2:2<=(flushM P (L.force D).1 (L.force D).2.1).2.2.1.n
theorem PointG.any (h:BookS w x b P L D) (k:PointG b P L D):Calls Tryz.prog 42 #[ptrV x.bk] w (BPost w x (zmrj b P L D)):=zY7V h k.g k.n k.g2 k.n2
set_option maxRecDepth 100000 in
set_option maxHeartbeats 1600000 in
theorem zrqK (h:BookS w x b P L D) (hok:LogOk L) (hc0:0<=b.count/\b.count<=100000) (_hrb : -1000000000<=L.room/\L.room<=1000000000) (hpt:b.inT=false->L.room < b.count*204->PointG b P L D) :
  Calls Tryz.prog 18 #[ptrV x.bk] w (BPost w x (zKmR b P L D)):=by
 obtain ⟨V,hV⟩:∃ V,V=zKmR b P L D:=⟨_,rfl⟩
 obtain ⟨POST,hPOST⟩:∃ POST,POST=BPost w x V:=⟨_,rfl⟩
 rw [<- hV,<- hPOST]
 have HPO:=qh (show ∀ n w' x' b1 P1 L1 D1,V=(b1,P1,L1,D1,n)->BTo w x w' x'->BookS w' x' b1 P1 L1 D1->POST (.returned (.int .i64 n)) w' from fun n w' x' b1 P1 L1 D1 h1 h2 h3=>by rw [hPOST,h1];exact ⟨rfl,x',h2,h3⟩)
 have HV:=qh hV
 have H:=qh h
 have HPT:=qh hpt
 have HTH:=qh (z4at h)
 have HRM:=qh (fun (wz:World) (hk:Kept (fun _=>False) w wz)=>z1Ea wz x.a.q x.a.p x.a.lv x.a.tv L (h.keep0 hk).s.log.hq hok)
 obtain ⟨-,-,-,c3,-⟩:=h.cells
 obtain ⟨t,ht⟩:∃ t,t=b.inT:=⟨_,rfl⟩
 rw [<- ht] at c3
 have HT:=qh ht
 obtain ⟨cn,hcn⟩:∃ cn,cn=b.count:=⟨_,rfl⟩
 obtain ⟨rm,hrm⟩:∃ rm,rm=L.room:=⟨_,rfl⟩
 have HCN:=qh hcn
 have HRR:=qh hrm
 rw [<- hrm] at HRM _hrb HPT
 rw [<- hcn] at hc0 HPT
 have HC:=qh (fun (w':World) (h:w'.heap[x.bk]?=some (.cells (bookC x b) 30 (0,0)))=>show w'.cell? ⟨x.bk,1,none⟩=some (.pointer (some ⟨x.a.q,0,none⟩))/\w'.cell? ⟨x.bk,8,none⟩=some (.int .i64 cn) from by rw [hcn];exact ⟨zcjX h rfl,zcjX h rfl⟩)
 unfold ptrV at HTH ⊢
 clear h hok hpt hV hPOST ht hcn hrm
 go_enter Tryz.func18,Tryz.ntmps18
 go_wp2_with fail
 refine HTH.out.mono ?_
 rintro e wx ⟨rfl,rfl⟩
 cases t
 ·have HVV:=qh (show V=if (zZaF b P L D).2.2.2.2≠0 then zZaF b P L D else ({ (zZaF b P L D).1 with inT:=true,tx:=(zZaF b P L D).2.2.1.fin,last:=0,done:=[],owed:=35 },(zZaF b P L D).2.1,(zZaF b P L D).2.2.1,(zZaF b P L D).2.2.2.1,0) from by
   rw [HV.out];unfold zKmR;rw [if_neg (by rw [<- HT.out];decide)])
  have HS0:=qh (show (w.drew).heap[x.bk]?=some (.cells (bookC x b) 30 (0,0)) from H.out.hb)
  have ecn:IntKind.i64.wrap (cn*204)=cn*204:=by rw [IntKind.wrap_i64];omega
  go_wp2_with fail
  refine znCh 10 (fun w'=>w'.heap[x.bk]?=some (.cells (bookC x b) 30 (0,0))) (by kernel_rfl) HS0.out (fun hH=>?_)
  simp only [List.length_cons,List.length_nil,List.replicate]
  refine tK 0 ?_ (fun w' hw'=>?_) hH ?_
  rotate_left
  ·obtain ⟨k1,k8⟩:=HC.out w' hw'
   go_simp<;>with_reducible rfl
  simp only [Act.put,oZa,oZb,oZc]
  refine tK 1 ?_ (fun w' hw'=>?_) hH ?_
  rotate_left
  ·obtain ⟨k1,k8⟩:=HC.out w' hw'
   go_simp<;>with_reducible rfl
  simp only [Act.put,oZa,oZb,oZc]
  refine tK 2 ?_ (fun w' hw'=>?_) hH ?_
  rotate_left
  ·obtain ⟨k1,k8⟩:=HC.out w' hw'
   go_simp<;>with_reducible rfl
  simp only [Act.put,oZa,oZb,oZc]
  refine tK 3 ?_ (fun w' hw'=>?_) hH ?_
  rotate_left
  ·obtain ⟨k1,k8⟩:=HC.out w' hw'
   go_simp<;>with_reducible rfl
  simp only [Act.put,oZa,oZb,oZc]
  refine tK 5 ?_ (fun w' hw'=>?_) hH ?_
  rotate_left
  ·obtain ⟨k1,k8⟩:=HC.out w' hw'
   go_simp<;>with_reducible rfl
  simp only [Act.put,oZa,oZb,oZc]
  refine tK 6 ?_ (fun w' hw'=>?_) hH ?_
  rotate_left
  ·obtain ⟨k1,k8⟩:=HC.out w' hw'
   go_simp<;>with_reducible rfl
  simp only [Act.put,oZa,oZb,oZc]
  refine tK 7 ?_ (fun w' hw'=>?_) hH ?_
  rotate_left
  ·obtain ⟨k1,k8⟩:=HC.out w' hw'
   go_simp<;>with_reducible rfl
  simp only [Act.put,oZa,oZb,oZc]
  refine tK 8 ?_ (fun w' hw'=>?_) hH ?_
  rotate_left
  ·obtain ⟨k1,k8⟩:=HC.out w' hw'
   go_simp<;>with_reducible rfl
  simp only [Act.put,oZa,oZb,oZc]
  refine tK 9 ?_ (fun w' hw'=>?_) hH ?_
  rotate_left
  ·obtain ⟨k1,k8⟩:=HC.out w' hw'
   go_simp<;>with_reducible rfl
  simp only [Act.put,oZa,oZb,oZc]
  refine stepL 4 rfl (by kernel_rfl) (fun K hK=>?_)
  go_simp
  refine (HRM.out _ ((Kept.refl (fun _=>False) w).drew)).mono ?_
  rintro e w1 ⟨rfl,hsm⟩
  have HK1:=qh (((Kept.refl (fun _=>False) w).drew).trans0 (hsm.kept (fun _=>False)))
  have HS1:=qh (show w1.heap[x.bk]?=some (.cells (bookC x b) 30 (0,0)) from HK1.out.heap H.out.hb id)
  clear hsm
  go_simp
  refine hK.out _ _ (fun _=>HS1.out) (fun _=>?_)
  simp only [oZa,oZb,oZc]
  clear hK K hH
  refine stepL 10 rfl (by kernel_rfl) (fun K hK=>?_)
  go_simp
  refine hK.out _ _ (fun h=>absurd rfl h) (fun _=>?_)
  simp only [oZa,oZb,oZc]
  clear hK K
  refine doneL (by kernel_rfl) ?_ _
  have HSB:=qh (H.out.keep0 HK1.out)
  have HTB:=qh ((BTo.refl w x).keep0 HK1.out)
  go_upto_if 23 with fail
  go_cut [3,23] from 23 to 28 (fun _ _ wx=>∃ x1 b1 P1 L1 D1,zZaF b P L D=(b1,P1,L1,D1,0)/\BTo w x wx x1/\BookS wx x1 b1 P1 L1 D1)
  case first=>
   by_cases hl:rm < cn*204
   ·have HRY:=qh (show zZaF b P L D=zmrj b P L D from by unfold zZaF;rw [if_pos (by rw [<- HCN.out,<- HRR.out];exact hl)])
    have HPA:=qh ((HPT.out HT.out.symm hl).any HSB.out)
    unfold ptrV at HPA
    go_wp2_with fail
    refine HPA.out.mono ?_
    rintro e w2 ⟨rfl,x2,ht2,hs2⟩
    have HT2:=qh ht2
    have HS2:=qh hs2
    obtain ⟨X,hX⟩:∃ X,X=zmrj b P L D:=⟨_,rfl⟩
    rw [<- hX] at HRY HS2 ⊢
    obtain ⟨b2,P2,L2,D2,n⟩:=X
    dsimp only at HS2 ⊢
    clear ht2 hs2 hX HPA
    by_cases hn:n=0
    ·subst hn
     go_wp2
     go_meet
     case rel=>exact ⟨x2,b2,P2,L2,D2,HRY.out,HTB.out.trans HT2.out,HS2.out⟩
    ·have hnb:(n != 0)=true:=by rw [bne_iff_ne];exact hn
     have HE:=qh (show V=(b2,P2,L2,D2,n) from by rw [HVV.out,HRY.out,if_pos hn])
     clear hn
     go_wp2
     exact HPO.out n _ _ _ _ _ _ HE.out (HTB.out.trans HT2.out) HS2.out
   ·have HRY:=qh (show zZaF b P L D=(b,P,L,D,0) from by unfold zZaF;rw [if_neg (by rw [<- HCN.out,<- HRR.out];exact hl)])
    go_wp2
    go_meet
    case rel=>exact ⟨x,b,P,L,D,HRY.out,HTB.out,HSB.out⟩
  case rest=>
   obtain ⟨x1,b1,P1,L1,D1,hry,ht1,hs1⟩:=hcut
   have HT1:=qh ht1
   have HSS:=qh hs1
   have HBK:=qh ht1.fix.bk
   have HE:=qh (show V=({ b1 with inT:=true,tx:=L1.fin,last:=0,done:=[],owed:=35 },P1,L1,D1,0) from by rw [HVV.out,hry,if_neg (fun h=>h rfl)])
   obtain ⟨-,q1,-⟩:=hs1.cells
   rw [ht1.fix.bk,ht1.fix.a.q] at q1
   have HEN:=qh (show Calls Tryz.prog 43 #[.pointer (some ⟨x.a.q,0,none⟩)] wc fun e w'=>e=.returned (.int .i64 L1.fin)/\wc=w' from by
    have:=z4JP wc x1.a.q x1.a.p x1.a.lv x1.a.tv L1 hs1.s.log.hq
    rwa [ht1.fix.a.q] at this)
   have HB0:=qh (show wc.heap[x.bk]?=some (.cells (bookC x1 b1) 30 (0,0)) from by rw [<- ht1.fix.bk];exact hs1.hb)
   obtain ⟨lf,hlf⟩:∃ lf,lf=L1.fin:=⟨_,rfl⟩
   rw [<- hlf] at HEN HE
   clear hry ht1 hs1 hlf
   go_wp2_with fail
   refine HEN.out.mono ?_
   rintro e wy ⟨rfl,rfl⟩
   go_wp2_with (refine z2q7 rfl _ _ _ rfl x.bk 3 (.bool true) (bookC x1 b1) rfl rfl HB0.out (by kernel_rfl) (by show 3 < 9;decide) rfl ?_)
   intro w3 hb3 hk3
   have HB3:=qh hb3
   have HK3:=qh hk3
   clear hb3 hk3
   go_wp2_with (refine z2q7 rfl _ _ _ rfl x.bk 4 (.int .i64 lf) _ rfl rfl HB3.out (by kernel_rfl) (by show 4 < 9;decide) rfl ?_)
   intro w4 hb4 hk4
   have HB4:=qh hb4
   have HK4:=qh (HK3.out.trans' hk4)
   clear hb4 hk4 HB3 HK3
   go_wp2_with (refine z2q7 rfl _ _ _ rfl x.bk 5 (.int .i64 0) _ rfl rfl HB4.out (by kernel_rfl) (by show 5 < 9;decide) rfl ?_)
   intro w5 hb5 hk5
   have HB5:=qh hb5
   have HK5:=qh (HK4.out.trans' hk5)
   clear hb5 hk5 HB4 HK4
   go_wp2_with (refine z2q7 rfl _ _ _ rfl x.bk 6 (.slice none 0 0) _ rfl rfl HB5.out (by kernel_rfl) (by show 6 < 9;decide) rfl ?_)
   intro w6 hb6 hk6
   have HB6:=qh hb6
   have HK6:=qh (HK5.out.trans' hk6)
   clear hb6 hk6 HB5 HK5
   go_wp2_with (refine z2q7 rfl _ _ _ rfl x.bk 7 (.int .i64 35) _ rfl rfl HB6.out (by kernel_rfl) (by show 7 < 9;decide) rfl ?_)
   intro w7 hb7 hk7
   have hset:=HSS.out.setDone (w':=w7) (v:=.slice none 0 0) (b':={ b1 with inT:=true,tx:=lf,last:=0,done:=[],owed:=35 }) (LsV.nil _ _) (by rw [HBK.out];exact hb7) ((HK6.out.trans' hk7).mono (fun z _ e=>.inl (by rw [HBK.out];exact e))) (.inl rfl)
   have HSET:=qh hset
   clear hb7 hk7 hset HB6 HK6
   go_wp2
   exact HPO.out 0 _ _ _ _ _ _ HE.out (HT1.out.trans HSET.out.2) HSET.out.1
 ·have HE:=qh (show V=(b,P,L,D,7) from by rw [HV.out];unfold zKmR;rw [if_pos HT.out.symm])
  go_wp2
  exact HPO.out 7 _ x _ _ _ _ HE.out (BTo.refl w x) H.out
end
end Go.Proofs.YtfgagakepmigbaaGreat
