/-
  No statement is proved here.
-/
import Derived.Test.YtnbfhdgojmflhaaJQn
namespace Go.Proofs.Ytnbfhdgojmflhaa
open Go.RowKit
section
variable {w w' w1:World} {a:Adr} {P:PoolM} {L:LogM} {D:DevM}
def PoolM.dirt (P:PoolM) (k:Nat):List Nat:=(List.range k).filter P.dirtyAt
theorem zRW2 (P:PoolM) (k:Nat):P.dirt (k+1)=P.dirt k ++ (if P.dirtyAt k then [k] else []):=by
 unfold PoolM.dirt
 rw [List.range_succ,List.filter_append]
 congr 1
 simp only [List.filter_cons,List.filter_nil]
theorem zEVJ (P:PoolM) (k:Nat):(P.dirt k).length<=k:=by
 have:=List.length_filter_le P.dirtyAt (List.range k)
 unfold PoolM.dirt
 rw [List.length_range] at this
 exact this
theorem zMyl {P:PoolM} {k i:Nat} (h:i∈P.dirt k):i < k:=by
 unfold PoolM.dirt at h
 exact List.mem_range.1 (List.mem_filter.1 h).1
theorem PoolS.dirtyAt (h:PoolS w a P L D) {k:Nat} {x:FrD} (hx:a.xs[k]?=some x):P.dirtyAt k=x.m.dirty:=by
 unfold PoolM.dirtyAt
 rw [List.getD_eq_getElem?_getD,h.ringAt hx]
 rfl
theorem PoolM.rows_dirt (P:PoolM):P.rows=(P.dirt P.ring.length).mergeSort (fun i j=>decide (P.pageAt i<=P.pageAt j)):=rfl
set_option maxRecDepth 100000 in
set_option maxHeartbeats 1600000 in
theorem zIkB (h:PoolS w a P L D) (hn:PoolN P):Calls Try.prog 39 #[ptrV a.pb] w fun e w'=>∃ v,e=.returned v/\w'.ownsRow w.heap.size 92 1 v P.rows.length (P.rows.map (ptrAt a.xs))/\Kept (fun _=>False) w w':=by
 obtain ⟨n,hn0⟩:∃ n,n=a.xs.length:=⟨_,rfl⟩
 have hn1:(n:Int)<=1024:=by have h1:=hn.len;have h2:=hn.m1;rw [h.len] at h1;omega
 have H:=qh h
 have HN:=qh hn
 have HNN:=qh hn0
 obtain ⟨ra,rc,hrv⟩:∃ A c,a.rv=.slice A n c:=by
  rcases h.row.2 with ⟨e,h0⟩ | ⟨g,c,cur,e,_⟩
  ·exact ⟨none,0,by rw [e,hn0,h0]⟩
  ·exact ⟨_,_,by rw [e,hn0]⟩
 have HRV:=qh hrv
 have cp5:w.cell? ⟨a.pb,5,none⟩=some (.slice ra n rc):=by rw [<- hrv];exact zcjX h.hp rfl
 have HSO:=qh (fun (w1:World) (hk:Kept (fun _=>False) w w1) (g cap m:Nat) (hg:w.heap.size<=g) (hm:m=(P.dirt n).length) (ho:w1.ownsRow w.heap.size 92 1 (.slice (some ⟨g,0,none⟩) m cap) m ((P.dirt n).map (ptrAt a.xs)))=>
  zICf (h.keep0 hk) hn (P.dirt n) (fun i hi=>by rw [<- hn0];exact zMyl hi) (fun e=>by have:=h.lt e;omega) hm (by have:=zEVJ P n;omega) ho)
 have HRW:=qh (show P.rows=(P.dirt n).mergeSort (fun i j=>decide (P.pageAt i<=P.pageAt j)) from by rw [PoolM.rows_dirt,h.len,hn0])
 obtain ⟨POST,hPOST⟩:∃ POST:Ending->World->Prop,POST=(fun e w'=>∃ v,e=.returned v/\w'.ownsRow w.heap.size 92 1 v P.rows.length (P.rows.map (ptrAt a.xs))/\Kept (fun _=>False) w w'):=⟨_,rfl⟩
 have HPO:=qh (show ∀ (w':World) (v:Value),w'.ownsRow w.heap.size 92 1 v (P.dirt n).length (((P.dirt n).mergeSort (fun i j=>decide (P.pageAt i<=P.pageAt j))).map (ptrAt a.xs))->Kept (fun _=>False) w w'->POST (.returned v) w' from fun w' v h1 h2=>by
  rw [hPOST];refine ⟨v,rfl,?_,h2⟩
  rw [HRW.out,(List.mergeSort_perm ..).length_eq];exact h1)
 rw [<- hPOST]
 clear h hn hn0 hrv hPOST
 unfold ptrV
 go_enter Try.func39,Try.ntmps39
 go_wp2_with fail
 go_loopw [3,12] (fun v i wr=>∃ k:Nat,i=.int .i64 k/\k<=n/\wr.ownsRow w.heap.size 92 1 v (P.dirt k).length ((P.dirt k).map (ptrAt a.xs))/\Kept (fun _=>False) w wr) (fun _ i _=>n - (intOf i).toNat)
 case atStart=>exact ⟨0,rfl,Nat.zero_le _,World.ownsRow_nil _ _ _ _,Kept.refl _ _⟩
 case round=>
  obtain ⟨k,rfl,hk,ho,hK⟩:=hrel
  have HO:=qh ho
  have HK:=qh hK
  clear ho hK
  by_cases hkn:k < n
  ·have hkl:k < a.xs.length:=by rw [<- HNN.out];exact hkn
   obtain ⟨x,hx⟩:∃ x,a.xs[k]?=some x:=⟨_,List.getElem?_eq_getElem hkl⟩
   obtain ⟨rg,rc',hra⟩:=H.out.rowAt (by omega)
   have hS:=H.out.keep0 HK.out
   have hra2:ra=some ⟨rg,0,none⟩:=by rw [HRV.out] at hra;injection hra
   have hcx:wr.cell? ⟨rg,k,none⟩=some (.pointer (some ⟨x.k,0,none⟩)):=by
    have hrow:=hS.row
    rw [hra] at hrow
    exact zz3g hrow (by rw [List.getElem?_map,hx];rfl)
   have hcd:wr.cell? ⟨x.k,4,none⟩=some (.bool x.m.dirty):=zcjX (hS.fr x (List.mem_of_getElem? hx)).1 rfl
   have hdd:=H.out.dirtyAt hx
   have hpx:ptrAt a.xs k=.pointer (some ⟨x.k,0,none⟩):=zGWN hx
   have hds:=zRW2 P k
   rw [hdd] at hds
   subst hra2
   have HDS:=qh hds
   have HPX:=qh hpx
   have kni:(k:Int) < (n:Int):=by omega
   clear hx hra hS hdd hpx hds hkl
   cases hd:x.m.dirty
   ·rw [hd] at hcd
    have hds2:=HDS.out
    rw [hd] at hds2
    have HD2:=qh (show P.dirt (k+1)=P.dirt k from by rw [hds2];simp)
    clear hds2
    go_wp2
    go_roundw
    case rel=>exact ⟨k+1,by go_num,by omega,by rw [HD2.out];exact HO.out,HK.out⟩
    case measure=>simp [intOf];omega
   ·rw [hd] at hcd
    have hds2:=HDS.out
    rw [hd] at hds2
    have HD2:=qh (show P.dirt (k+1)=P.dirt k ++ [k] from by rw [hds2];simp)
    have hdl:=zEVJ P k
    obtain ⟨m,hm⟩:∃ m,m=(P.dirt k).length:=⟨_,rfl⟩
    have HMM:=qh hm
    have ho:=HO.out
    rw [<- hm] at ho hdl
    have HO2:=qh ho
    clear hds2 hm ho
    go_wp2_with (at_builtin;refine zdvL rfl _ _ 52 rfl w.heap.size 92 Try.underlying52 zEZX rfl (by omega) u3 m ((P.dirt k).map (ptrAt a.xs)) rfl (zh0U HO2.out ((Kept.refl (fun _=>False) wr).alloc _) (fun _ _=>id)) wr.heap.size 0 1 1 [.pointer (some ⟨x.k,0,none⟩)] rfl rfl (fun j u hu=>?hnews) (fun u hu=>?h1) (by omega) ?h63 ?hbytes ?hbase ?_)
    case hnews=>
     have hj:j=0:=by have:=(List.getElem?_eq_some_iff.1 hu).1;simpa using this
     subst hj
     cases hu
     exact zcjX (heap_alloc_new wr _) rfl
    case h1=>rw [List.mem_singleton] at hu;subst hu;rfl
    case h63=>have e63:maxLen=9223372036854775807:=rfl;omega
    case hbytes=>omega
    case hbase=>have:=HK.out.size;show w.heap.size<=(wr.alloc _).heap.size;simp;omega
    intro g cap w5 ho5 _ hg5 hl5
    have HO5:=qh ho5
    have HK5:=qh (show Kept (fun _=>False) w w5 from by
     have ka:=HK.out.alloc (.cells #[Value.pointer (some ⟨x.k,0,none⟩)] 92)
     rcases hg5 with ⟨e,hk⟩ | ⟨e,hk⟩
     ·refine ka.new hk (fun z hz=>?_)
      subst hz
      rcases HO2.out.2 with ⟨e2,_⟩ | ⟨g2,c2,_,e2,hb2,_⟩
      ·rw [e2] at e;cases e
      ·rw [e2] at e;cases e;exact hb2
     ·exact ka.trans0 hk)
    clear ho5 hg5
    go_wp2
    go_roundw
    case rel=>
     refine ⟨k+1,by go_num,by omega,?_,HK5.out⟩
     rw [HD2.out,List.map_append,List.length_append,List.map_singleton,HPX.out,<- HMM.out]
     exact HO5.out
    case measure=>simp [intOf];omega
  ·have hkn2:k=n:=by omega
   subst hkn2
   obtain ⟨m,hm⟩:∃ m,m=(P.dirt k).length:=⟨_,rfl⟩
   have HMM:=qh hm
   rcases HO.out.2 with ⟨e2,h0⟩ | ⟨g2,c2,_,e2,hb2,_⟩
   ·subst e2
    have HSN:=qh (AnyF.slices_SortFunc_none (P:=Try.prog) { sortF with } none 0 (.func (.func 67) #[] #[]) wr)
    have hd0:P.dirt k=[]:=List.length_eq_zero_iff.1 h0
    have HD0:=qh hd0
    clear hd0 h0
    go_wp2_with fail
    refine HSN.out.mono ?_
    rintro e w5 ⟨rfl,rfl⟩
    go_wp2
    exact HPO.out w5 (.slice none 0 0) (by rw [HD0.out];simp;exact World.ownsRow_nil _ _ _ _) HK.out
   ·rw [<- hm] at e2
    subst e2
    have HSF:=qh (HSO.out wr HK.out g2 c2 m hb2 hm (by have:=HO.out;rw [<- hm] at this;exact this))
    clear hm
    go_wp2_with fail
    refine HSF.out.mono ?_
    rintro e w5 ⟨rfl,hk5,ho5⟩
    have HK5:=qh (HK.out.new hk5 (fun z hz=>by subst hz;exact hb2))
    have HO5:=qh ho5
    clear hk5 ho5
    go_wp2
    exact HPO.out w5 (.slice (some ⟨g2,0,none⟩) m c2) (by rw [<- HMM.out];exact HO5.out) HK5.out
end
section
variable {w w' w1:World} {a:Adr} {P:PoolM} {L:LogM} {D:DevM}
theorem PoolS.sync (h:PoolS w a P L D) (p:Nat) (hp:a.p=p):Calls Try.prog 43 #[ptrV p] w fun e w'=>e=.returned (.int .i64 D.syncR.1)/\PoolS w' (a.re a.lv a.tv) P L D.syncR.2/\AdrTo w a w' (a.re a.lv a.tv):=by
 subst hp
 refine (zWTC h.log.dev).mono ?_
 rintro e w' ⟨he,hd,hk⟩
 have:=h.turn hk (fun x hx=>by rcases hx with hx | hx | hx;exact .inr (.inl hx);exact .inr (.inr (.inl hx));exact .inr (.inr (.inr (.inl hx)))) (h.log.dev2 hk (fun x hx=>hx) hd) (.inl rfl) (.inl rfl)
 exact ⟨he,this.1,⟨⟨rfl,rfl,rfl,rfl,rfl,rfl⟩,this.2.1,this.2.2⟩⟩
theorem zOoo (P:PoolM) {i:Nat} (h:i∈P.rows):i < P.ring.length:=zMyl ((List.mergeSort_perm ..).mem_iff.1 h)
set_option maxRecDepth 100000 in
set_option maxHeartbeats 1600000 in
theorem zxnx (h:PoolS w a P L D) (hg:LogG L) (hn:PoolN P):Calls Try.prog 17 #[ptrV a.pb] w fun e w'=>e=.returned (.int .i64 (zx6l P L D).2.2.2)/\PPost w a (zx6l P L D).1 (zx6l P L D).2.1 (zx6l P L D).2.2.1 w':=by
 obtain ⟨X,hX⟩:∃ X,X=zfTq P.rows P L D:=⟨_,rfl⟩
 have H:=qh h
 have HG:=qh hg
 have HN:=qh hn
 have HTH:=qh (zaue h)
 have HRO:=qh (zIkB h hn)
 obtain ⟨POST,hPOST⟩:∃ POST:Ending->World->Prop,POST=(fun e w'=>e=.returned (.int .i64 (zx6l P L D).2.2.2)/\PPost w a (zx6l P L D).1 (zx6l P L D).2.1 (zx6l P L D).2.2.1 w'):=⟨_,rfl⟩
 have HPE:=qh (show ∀ (w':World) (P1:PoolM) (L1:LogM) (D1:DevM) (c:Int),X=(P1,L1,D1,c)->c≠0->PPost w a P1 L1 D1 w'->POST (.returned (.int .i64 c)) w' from fun w' P1 L1 D1 c e hc h1=>by
  have hf:zx6l P L D=(P1,L1,D1,c):=by unfold zx6l;rw [<- hX,e];exact if_pos hc
  rw [hPOST,hf];exact ⟨rfl,h1⟩)
 have HPK:=qh (show ∀ (w':World) (P1:PoolM) (L1:LogM) (D1:DevM),X=(P1,L1,D1,0)->PPost w a P1 L1 D1.syncR.2 w'->POST (.returned (.int .i64 D1.syncR.1)) w' from fun w' P1 L1 D1 e h1=>by
  have hf:zx6l P L D=(P1,L1,D1.syncR.2,D1.syncR.1):=by unfold zx6l;rw [<- hX,e];exact if_neg (fun h=>h rfl)
  rw [hPOST,hf];exact ⟨rfl,h1⟩)
 rw [<- hPOST]
 have HX:=qh hX
 obtain ⟨m,hm⟩:∃ m,m=P.rows.length:=⟨_,rfl⟩
 have HM:=qh hm
 have hm1:(m:Int)<=1024:=by
  have h1:=hn.len;have h2:=hn.m1
  have h3:=zEVJ P P.ring.length
  have h4:P.rows.length=(P.dirt P.ring.length).length:=(List.mergeSort_perm ..).length_eq
  omega
 obtain ⟨pb,hpb⟩:∃ pb,pb=a.pb:=⟨_,rfl⟩
 have HPB:=qh hpb
 unfold ptrV at HTH HRO ⊢
 rw [<- hpb] at HTH HRO ⊢
 rw [<- hm] at HRO
 clear h hg hn hPOST hX hm hpb
 go_enter Try.func17,Try.ntmps17
 go_wp2_with fail
 refine HTH.out.mono ?_
 rintro e wx ⟨rfl,rfl⟩
 go_wp2_with fail
 refine HRO.out.mono ?_
 rintro e w1 ⟨v,rfl,ho,hk⟩
 obtain ⟨va,vc,hv⟩:∃ A c,v=.slice A m c:=by
  rcases ho.2 with ⟨e,h0⟩ | ⟨g,c,cur,e,_⟩
  ·exact ⟨none,0,by rw [e,h0]⟩
  ·exact ⟨_,_,e⟩
 subst hv
 have HO1:=qh ho
 have HK1:=qh hk
 clear ho hk HRO
 go_wp2_with fail
 go_loopw [12] (fun i wr=>∃ (j:Nat) (ai:Adr) (Pi:PoolM) (Li:LogM) (Di:DevM),i=.int .i64 j/\j<=m/\PoolS wr ai Pi Li Di/\AdrTo w a wr ai/\zfTq (P.rows.drop j) Pi Li Di=X/\PoolN Pi/\LogG Li/\Pi.ring.length=P.ring.length /\
  wr.ownsRow w.heap.size 92 1 (.slice va m vc) m (P.rows.map (ptrAt a.xs))/\ai.xs.map (·.k)=a.xs.map (·.k)/\∀ x,(Value.slice va m vc).ownBlock=some x->¬ ai.K x) (fun i _=>m - (intOf i).toNat)
 case atStart=>exact ⟨0,a,P,L,D,rfl,Nat.zero_le _,H.out.keep0 HK1.out,(AdrTo.refl w a).keep0 HK1.out,by rw [List.drop_zero];exact HX.out.symm,HN.out,HG.out,rfl,HO1.out,rfl,fun x hx hK=>by
  have h1:=H.out.lt hK
  have h2:=(HO1.out.lt x hx).1
  omega⟩
 case round=>
  obtain ⟨j,ai,Pi,Li,Di,rfl,hj,hS,hT,hE,hN,hG,hle,ho,hks,hgk⟩:=hrel
  have HS:=qh hS
  have HT:=qh hT
  have HE:=qh hE
  have HNi:=qh hN
  have HGi:=qh hG
  have HO:=qh ho
  have HKS:=qh hks
  have HGK:=qh hgk
  clear hS hT hE hN hG ho hks hgk
  by_cases hjm:j < m
  ·have hjl:j < P.rows.length:=by rw [<- HM.out];exact hjm
   obtain ⟨i,hi⟩:∃ i,i=P.rows[j]:=⟨_,rfl⟩
   have hdr:P.rows.drop j=i :: P.rows.drop (j+1):=by rw [hi];exact List.drop_eq_getElem_cons hjl
   have hil:i < P.ring.length:=zOoo P (by rw [hi];exact List.getElem_mem hjl)
   have hil2:i < ai.xs.length:=by rw [<- HS.out.len,hle];exact hil
   obtain ⟨x,hx⟩:∃ x,ai.xs[i]?=some x:=⟨_,List.getElem?_eq_getElem hil2⟩
   have hpx:ptrAt a.xs i=.pointer (some ⟨x.k,0,none⟩):=by
    have:ptrAt a.xs i=ptrAt ai.xs i:=by unfold ptrAt;rw [HKS.out]
    rw [this];exact zGWN hx
   obtain ⟨g,c,hvv,_⟩:=HO.out.form (by omega)
   have hva:va=some ⟨g,0,none⟩:=by injection hvv
   subst hva
   have hrow:=HO.out
   have hcx:wr.cell? ⟨g,j,none⟩=some (.pointer (some ⟨x.k,0,none⟩)):=zz3g hrow (by rw [List.getElem?_map,List.getElem?_eq_getElem hjl,<- hi,Option.map_some,hpx])
   have hpg:=HNi.out.pg x.m (List.mem_of_getElem? (HS.out.ringAt hx))
   have hfb:=HNi.out.fb
   have hf0:=HNi.out.f0
   have HW:=qh (zCf5 HS.out HGi.out hf0 (by omega) hx hpg.1 (by omega))
   unfold ptrV at HW
   rw [HT.out.fix.pb,<- HPB.out] at HW
   have hst:=HE.out
   rw [hdr,zfTq,HS.out.ringAt hx] at hst
   have HST:=qh (show (if (wrF Pi.first x.m Li Di).2.2.2≠0 then (Pi,(wrF Pi.first x.m Li Di).2.1,(wrF Pi.first x.m Li Di).2.2.1,(wrF Pi.first x.m Li Di).2.2.2) else zfTq (P.rows.drop (j+1)) { Pi with ring:=Pi.ring.set i (wrF Pi.first x.m Li Di).1 } (wrF Pi.first x.m Li Di).2.1 (wrF Pi.first x.m Li Di).2.2.1)=X from hst)
   have HXX:=qh hx
   have kni:(j:Int) < (m:Int):=by omega
   clear hdr hil hil2 hpx hvv hrow hpg hfb hf0 hst hx hi hjl HE
   go_wp2_with fail
   refine HW.out.mono ?_
   rintro e w3 h3
   have h3k:Kept ai.K wr w3:=by obtain ⟨_,_,_,hk,_⟩:=h3;exact hk
   obtain ⟨rfl,a3,hs3,ht3,hx3,hk3⟩:=h3.to HXX.out
   have HS3:=qh hs3
   have HT3:=qh (HT.out.trans ht3)
   have HK3:=qh (hk3.trans HKS.out)
   have HO3:=qh (zh0U HO.out h3k HGK.out)
   have HGK3:=qh (show ∀ z,(Value.slice (some ⟨g,0,none⟩) m vc).ownBlock=some z->¬ a3.K z from fun z hz hK=>by
    rcases ht3.g z hK with h1 | h1
    ·exact HGK.out z hz h1
    ·have:=(HO.out.lt z hz).2;omega)
   obtain ⟨YE,hYE⟩:∃ YE,YE=(wrF Pi.first x.m Li Di).2.2.2:=⟨_,rfl⟩
   rw [<- hYE]
   have HYE:=qh hYE
   clear hs3 ht3 hx3 hk3 h3k hYE HW h3
   by_cases hy:YE=0
   ·have HX5:=qh (show zfTq (P.rows.drop (j+1)) { Pi with ring:=Pi.ring.set i (wrF Pi.first x.m Li Di).1 } (wrF Pi.first x.m Li Di).2.1 (wrF Pi.first x.m Li Di).2.2.1=X from by
     rw [<- HST.out,if_neg (fun h=>h (HYE.out.symm.trans hy))])
    subst hy
    go_wp2
    go_roundw
    case rel=>exact ⟨j+1,a3,_,_,_,by go_num,by omega,HS3.out,HT3.out,HX5.out,HNi.out.set (HS.out.ringAt HXX.out) (zyv7 _ _ _ _),HGi.out.wr _ _ _,by show (Pi.ring.set i _).length=_;rw [List.length_set];exact hle,HO3.out,HK3.out,HGK3.out⟩
    case measure=>simp [intOf];omega
   ·have hyb:(YE != 0)=true:=by rw [bne_iff_ne];exact hy
    have HY:=qh hy
    have HX5:=qh (show X=(Pi,(wrF Pi.first x.m Li Di).2.1,(wrF Pi.first x.m Li Di).2.2.1,YE) from by
     rw [<- HST.out,if_pos (fun h=>hy (HYE.out.trans h)),HYE.out])
    go_wp2
    refine HPE.out w3 _ _ _ _ HX5.out HY.out (HT3.out.post ?_)
    have hs:=HS3.out
    rw [zcC1 (by rw [<- HYE.out];exact HY.out),zh6D (HS.out.ringAt HXX.out)] at hs
    exact hs
  ·have hjm2:j=m:=by omega
   have hE:=HE.out
   rw [hjm2,HM.out,List.drop_length,zfTq] at hE
   have HX5:=qh hE.symm
   have HSY:=qh (HS.out.sync ai.p rfl)
   have c0:wr.cell? ⟨pb,0,none⟩=some (.pointer (some ⟨ai.p,0,none⟩)):=by rw [HPB.out,<- HT.out.fix.pb];exact zcjX HS.out.hp rfl
   unfold ptrV at HSY
   clear hE HE
   go_wp2_with fail
   refine HSY.out.mono ?_
   rintro e w3 ⟨rfl,hs3,ht3⟩
   have HP:=qh ((HT.out.trans ht3).post hs3)
   clear hs3 ht3
   go_wp2
   exact HPK.out w3 _ _ _ HX5.out HP.out
end
end Go.Proofs.Ytnbfhdgojmflhaa
