/-
  No statement is proved here.
-/
import Derived.Test.YtnbfhdgojmflhaaJQu
namespace Go.Proofs.Ytnbfhdgojmflhaa
open Go.RowKit
theorem zLz4 {D:DevM} {L:LogM} {R:List RecM} {B:Int->UInt8} (h:LogI D L R B) (hc:Calm D) {pf:Int} {f:FrM} (h0:0<=pf+f.page) (h1:pf+f.page < D.n) (hout:pf+f.page < L.first\/L.first+L.count<=pf+f.page) (hb:f.b.length=512) (hl:f.last < L.fin) :
  ∃ L' D',wrF pf f L D=({ f with dirty:=false,first:=0 },L',D',0)/\LogI D' L' R B/\Calm D'/\D'.n=D.n/\(L'=L\/L'=zKV1 L)/\f.last < L'.safe/\D'.latest (pf+f.page)=f.b /\
   ∀ k,(k < L.first\/L.first+L.count<=k)->k≠pf+f.page->D'.latest k=D.latest k:=by
 have put:∀ {D1:DevM} {L1:LogM},LogI D1 L1 R B->Calm D1->D1.n=D.n->L1.first=L.first->L1.count=L.count->D1.write (pf+f.page) f.b=(0,D1.put (pf+f.page) f.b)/\LogI (D1.put (pf+f.page) f.b) L1 R B/\Calm (D1.put (pf+f.page) f.b):=fun {D1 L1} hI hC hn hf hcn=>by
  refine ⟨hC.write h0 (by omega) hb,hI.dev rfl hC.d (fun k=>?_) hI.slen (fun k k1 k2=>?_),⟨hC.a,hC.d,hC.n⟩⟩
  ·rw [z4uV];split
   ·exact hb
   ·exact hI.len k
  ·rw [z4uV]
   have hk:k≠pf+f.page:=by omega
   rw [if_neg hk]
   refine ⟨rfl,?_⟩
   show updF D1.opn (pf+f.page) f.b k=none
   unfold updF
   rw [if_neg hk]
   exact hI.nop k k1 k2
 unfold wrF
 dsimp only
 by_cases hs:L.safe<=f.last
 ·obtain ⟨D1,e1,c1,n1,i1,o1,_⟩:=zi5U h hc
  obtain ⟨a1,a2,_,_,a5,a6,_⟩:=zvn3 L
  obtain ⟨w1,w2,w3⟩:=put i1 c1 n1 a1 a2
  rw [if_pos hs,e1]
  dsimp only
  rw [if_neg (by decide),w1]
  dsimp only
  rw [if_neg (by decide)]
  refine ⟨_,_,rfl,w2,w3,n1,.inr rfl,by rw [a6];exact hl,by rw [z4uV,if_pos rfl],fun k hk hne=>?_⟩
  rw [z4uV,if_neg hne]
  exact o1 k hk
 ·obtain ⟨w1,w2,w3⟩:=put h hc rfl rfl rfl
  rw [if_neg hs]
  dsimp only
  rw [if_neg (by decide),w1]
  dsimp only
  rw [if_neg (by decide)]
  refine ⟨_,_,rfl,w2,w3,rfl,.inl rfl,by omega,by rw [z4uV,if_pos rfl],fun k hk hne=>?_⟩
  rw [z4uV,if_neg hne]
def PoolM.heldOf (P:PoolM) (page:Int):Int:=match P.ring[P.at page]? with | some f=>f.held | none=>0
theorem zN5k {P:PoolM} (hnd:(P.ring.map (·.page)).Nodup) {f:FrM} (h:f∈P.ring):P.heldOf f.page=f.held:=by
 obtain ⟨i,hi⟩:=List.getElem?_of_mem h
 unfold PoolM.heldOf
 rw [zMbS hnd hi,hi]
theorem zjuv {P:PoolM} {page:Int} (h:∀ f∈P.ring,f.page≠page):P.heldOf page=0:=by
 unfold PoolM.heldOf
 cases e:P.ring[P.at page]? with
 | none=>rfl
 | some f=>exact absurd (zyH5 e) (h f (List.mem_of_getElem? e))
def FrM.alike (f g:FrM):Prop:=g.page=f.page/\g.b=f.b/\g.last=f.last/\g.first=f.first
structure Keeps (P:PoolM) (L:LogM) (D:DevM) (P':PoolM) (L':LogM) (D':DevM):Prop where
 like:Like P L D P' L' D'
 out:∀ k,(k < L.first\/L.first+L.count<=k)->(k < P.first\/P.first+P.blocks<=k)->D'.latest k=D.latest k
 cur:∀ p,0<=p->p < P.blocks->P'.cur D' p=P.cur D p
 held:∀ p,P'.heldOf p=P.heldOf p
 dev:∀ p,0<=p->p < P.blocks->D'.latest (P.first+p)=D.latest (P.first+p)\/∃ f∈P.ring,f.page=p/\f.dirty=true/\f.last < L'.safe/\D'.latest (P.first+p)=f.b
 dirty:∀ f∈P.ring,f.dirty=true->(∃ g∈P'.ring,g.dirty=true/\f.alike g)\/(f.last < L'.safe/\D'.latest (P.first+f.page)=f.b)
 new:∀ g∈P'.ring,g.dirty=true->∃ f∈P.ring,f.dirty=true/\f.alike g
theorem Keeps.refl (P:PoolM) (L:LogM) (D:DevM):Keeps P L D P L D:=
 ⟨Like.refl _ _ _,fun _ _ _=>rfl,fun _ _ _=>rfl,fun _=>rfl,fun _ _ _=>.inl rfl,fun f hf hd=>.inl ⟨f,hf,hd,rfl,rfl,rfl,rfl⟩,fun f hf hd=>⟨f,hf,hd,rfl,rfl,rfl,rfl⟩⟩
theorem Keeps.trans {P P1 P2:PoolM} {L L1 L2:LogM} {D D1 D2:DevM} (hI:PoolI P L D) (h:Keeps P L D P1 L1 D1) (k:Keeps P1 L1 D1 P2 L2 D2):Keeps P L D P2 L2 D2:=by
 have l1:=h.like
 have l2:=k.like
 have hs:=l2.safe
 refine ⟨l1.trans l2,fun x h1 h2=>?_,fun p h1 h2=>?_,fun p=>(k.held p).trans (h.held p),fun p h1 h2=>?_,fun f hf hd=>?_,fun g hg hd=>?_⟩
 ·rw [k.out x (by rw [l1.lf,l1.lc];exact h1) (by rw [l1.pf,l1.pb];exact h2)]
  exact h.out x h1 h2
 ·rw [k.cur p h1 (by rw [l1.pb];exact h2)]
  exact h.cur p h1 h2
 ·have k1:=k.dev p h1 (by rw [l1.pb];exact h2)
  rw [l1.pf] at k1
  rcases k1 with e | ⟨f1,a1,a2,a3,a4,a5⟩
  ·rcases h.dev p h1 h2 with e2 | ⟨f,b1,b2,b3,b4,b5⟩
   ·exact .inl (e.trans e2)
   ·exact .inr ⟨f,b1,b2,b3,by omega,e.trans b5⟩
  ·obtain ⟨f,b1,b2,b3,b4,b5,b6⟩:=h.new f1 a1 a3
   exact .inr ⟨f,b1,by rw [<- b3];exact a2,b2,by rw [<- b5];exact a4,by rw [a5,b4]⟩
 ·have hp:=hI.fr f hf
  rcases h.dirty f hf hd with ⟨g,g1,g2,g3,g4,g5,g6⟩ | ⟨a1,a2⟩
  ·rcases k.dirty g g1 g2 with ⟨g',q1,q2,q3,q4,q5,q6⟩ | ⟨a1,a2⟩
   ·exact .inl ⟨g',q1,q2,q3.trans g3,q4.trans g4,q5.trans g5,q6.trans g6⟩
   ·exact .inr ⟨by rw [<- g5];exact a1,by rw [<- g4,<- g3,<- l1.pf];exact a2⟩
  ·have k1:=k.dev f.page hp.1 (by rw [l1.pb];exact hp.2.1)
   rw [l1.pf] at k1
   rcases k1 with e | ⟨f1,b1,b2,b3,b4,b5⟩
   ·exact .inr ⟨by omega,e.trans a2⟩
   ·obtain ⟨f0,c1,c2,c3,c4,c5,c6⟩:=h.new f1 b1 b3
    have e0:f0=f:=by
     obtain ⟨i,hi⟩:=List.getElem?_of_mem c1
     obtain ⟨j,hj⟩:=List.getElem?_of_mem hf
     have q1:=zMbS hI.nd hi
     have q2:=zMbS hI.nd hj
     rw [<- c3,b2,q2] at q1
     rw [<- q1,hj] at hi
     exact (Option.some.inj hi).symm
    subst e0
    exact .inr ⟨by rw [<- c5];exact b4,by rw [b5,c4]⟩
 ·obtain ⟨f1,a1,a2,a3,a4,a5,a6⟩:=k.new g hg hd
  obtain ⟨f,b1,b2,b3,b4,b5,b6⟩:=h.new f1 a1 a2
  exact ⟨f,b1,b2,a3.trans b3,a4.trans b4,a5.trans b5,a6.trans b6⟩
theorem PoolI.same {P P1:PoolM} {L:LogM} {D:DevM} (h:PoolI P L D) (h1:P1.first=P.first) (h2:P1.blocks=P.blocks) (h3:P1.most=P.most) (h4:SameR P.ring P1.ring) (h5:0<=P1.hand) (h6:P1.hand<=P1.ring.length):PoolI P1 L D:=by
 refine ⟨by rw [h1];exact h.f0,by rw [h2];exact h.b1,by rw [h1,h2];exact h.fn,h.dn,by rw [h1,h2];exact h.ap,by rw [h3];exact h.m8,by rw [h3];exact h.m1,by rw [h4.len,h3];exact h.len,h5,h6,by rw [h4.pages];exact h.nd,fun f hf=>?_⟩
 obtain ⟨i,hi⟩:=List.getElem?_of_mem hf
 obtain ⟨g,hg,hc⟩:=h4.get hi
 obtain ⟨c1,c2,c3,c4,c5,c6⟩:=zkyC hc
 have:=h.fr g (List.mem_of_getElem? hg)
 rw [c1,c2,c3,c4,c5,c6,h1,h2]
 exact this
theorem Keeps.same {P P1:PoolM} {L:LogM} {D:DevM} (h:PoolI P L D) (h1:P1.first=P.first) (h2:P1.blocks=P.blocks) (h3:P1.most=P.most) (h4:SameR P.ring P1.ring):Keeps P L D P1 L D:=by
 have hnd1:(P1.ring.map (·.page)).Nodup:=by rw [h4.pages];exact h.nd
 have key:∀ p,(∃ f∈P.ring,∃ g∈P1.ring,f.page=p/\g.core=f.core)\/((∀ f∈P.ring,f.page≠p)/\∀ g∈P1.ring,g.page≠p):=fun p=>by
  by_cases c:∃ f∈P.ring,f.page=p
  ·obtain ⟨f,hf,hp⟩:=c
   obtain ⟨i,hi⟩:=List.getElem?_of_mem hf
   obtain ⟨g,hg,hc⟩:=h4.symm.get hi
   exact .inl ⟨f,hf,g,List.mem_of_getElem? hg,hp,hc.symm⟩
  ·refine .inr ⟨fun f hf e=>c ⟨f,hf,e⟩,fun g hg e=>?_⟩
   obtain ⟨i,hi⟩:=List.getElem?_of_mem hg
   obtain ⟨f,hf,hc⟩:=h4.get hi
   exact c ⟨f,List.mem_of_getElem? hf,by rw [<- (zkyC hc).1];exact e⟩
 refine ⟨⟨h1,h2,h3,rfl,rfl,rfl,rfl,rfl,Int.le_refl _,rfl,rfl⟩,fun _ _ _=>rfl,fun p _ _=>?_,fun p=>?_,fun _ _ _=>.inl rfl,fun f hf hd=>.inl ?_,fun g hg hd=>?_⟩
 ·rcases key p with ⟨f,hf,g,hg,rfl,hc⟩ | ⟨a1,a2⟩
  ·obtain ⟨c1,c2,_⟩:=zkyC hc
   rw [zvSy h.nd hf,<- c1,zvSy hnd1 hg,c2]
  ·rw [zzzb a1,zzzb a2,h1]
 ·rcases key p with ⟨f,hf,g,hg,rfl,hc⟩ | ⟨a1,a2⟩
  ·obtain ⟨c1,_,c3,_⟩:=zkyC hc
   rw [zN5k h.nd hf,<- c1,zN5k hnd1 hg,c3]
  ·rw [zjuv a1,zjuv a2]
 ·obtain ⟨i,hi⟩:=List.getElem?_of_mem hf
  obtain ⟨g,hg,hc⟩:=h4.symm.get hi
  obtain ⟨c1,c2,c3,c4,c5,c6⟩:=zkyC hc
  exact ⟨g,List.mem_of_getElem? hg,by rw [<- c4];exact hd,c1.symm,c2.symm,c6.symm,c5.symm⟩
 ·obtain ⟨i,hi⟩:=List.getElem?_of_mem hg
  obtain ⟨f,hf,hc⟩:=h4.get hi
  obtain ⟨c1,c2,c3,c4,c5,c6⟩:=zkyC hc
  exact ⟨f,List.mem_of_getElem? hf,by rw [<- c4];exact hd,c1,c2,c6,c5⟩
theorem zunS {l:List FrM} {k:Nat} {g x:FrM} (h:x∈l.set k g):x=g\/∃ i,i≠k/\l[i]?=some x:=by
 obtain ⟨i,hi⟩:=List.getElem?_of_mem h
 by_cases e:k=i
 ·subst e
  have hl:k < l.length:=by have:=(List.getElem?_eq_some_iff.1 hi).1;simpa using this
  rw [List.getElem?_set_self hl] at hi
  exact .inl (Option.some.inj hi).symm
 ·rw [List.getElem?_set_ne e] at hi
  exact .inr ⟨i,fun e2=>e e2.symm,hi⟩
theorem zpy7 {l:List FrM} {k i:Nat} {g x:FrM} (h:l[i]?=some x) (hne:i≠k):x∈l.set k g:=by
 refine List.mem_of_getElem? (i:=i) ?_
 rw [List.getElem?_set_ne (fun e=>hne e.symm)]
 exact h
theorem zb4S {l:List FrM} {k:Nat} {f g:FrM} (h:l[k]?=some f):g∈l.set k g:=by
 refine List.mem_of_getElem? (i:=k) ?_
 rw [List.getElem?_set_self (List.getElem?_eq_some_iff.1 h).1]
theorem zltG {l:List FrM} {k:Nat} {f g:FrM} (h:l[k]?=some f) (hp:g.page=f.page):(l.set k g).map (·.page)=l.map (·.page):=by
 rw [List.map_set]
 apply List.ext_getElem?
 intro i
 rw [List.getElem?_set]
 by_cases e:k=i
 ·subst e
  rw [if_pos rfl,List.getElem?_map,h]
  have:=(List.getElem?_eq_some_iff.1 h).1
  simp [this,hp]
 ·rw [if_neg e]
theorem wrote {P:PoolM} {L L':LogM} {D D':DevM} (h:PoolI P L D) {k:Nat} {f:FrM} (hf:P.ring[k]?=some f) (hd:f.dirty=true) (hn:D'.n=D.n) (hL:L'=L\/L'=zKV1 L) (hsf:L.safe<=L.fin) (hlast:f.last < L'.safe) (hat:D'.latest (P.first+f.page)=f.b)
  (hout:∀ k,(k < L.first\/L.first+L.count<=k)->k≠P.first+f.page->D'.latest k=D.latest k) :
  PoolI { P with ring:=P.ring.set k { f with dirty:=false,first:=0 } } L' D'/\Keeps P L D { P with ring:=P.ring.set k { f with dirty:=false,first:=0 } } L' D':=by
 have hfl:L'.first=L.first/\L'.count=L.count/\L'.turn=L.turn/\L'.oldest=L.oldest/\L'.fin=L.fin/\L.safe<=L'.safe/\L'.lsns=L.lsns:=by
  rcases hL with rfl | rfl
  ·exact ⟨rfl,rfl,rfl,rfl,rfl,Int.le_refl _,rfl⟩
  ·obtain ⟨a1,a2,a3,a4,a5,a6,a7⟩:=zvn3 L
   exact ⟨a1,a2,a3,a4,a5,by omega,a7⟩
 obtain ⟨l1,l2,l3,l4,l5,l6,l7⟩:=hfl
 have hfm:=List.mem_of_getElem? hf
 have hfr:=h.fr f hfm
 have hpg:(P.ring.set k { f with dirty:=false,first:=0 }).map (·.page)=P.ring.map (·.page):=zltG hf rfl
 have hnd1:((P.ring.set k { f with dirty:=false,first:=0 }).map (·.page)).Nodup:=by rw [hpg];exact h.nd
 have hne:∀ {i:Nat} {x:FrM},P.ring[i]?=some x->i≠k->x.page≠f.page:=fun {i x} hi hik e=>hik (by
  have q1:=zMbS h.nd hi
  have q2:=zMbS h.nd hf
  rw [e,q2] at q1
  exact q1.symm)
 have area:∀ p,0<=p->p < P.blocks->(P.first+p < L.first\/L.first+L.count<=P.first+p):=fun p a b=>by have:=h.ap;omega
 refine ⟨⟨h.f0,h.b1,by rw [hn];exact h.fn,by rw [hn];exact h.dn,by rw [l1,l2];exact h.ap,h.m8,h.m1,by show ((P.ring.set k _).length:Int)<=P.most;rw [List.length_set];exact h.len,h.h0,by show P.hand<=((P.ring.set k _).length:Int);rw [List.length_set];exact h.h1,hnd1,fun x hx=>?_⟩,?_⟩
 ·rcases zunS hx with rfl | ⟨i,hik,hi⟩
  ·exact ⟨hfr.1,hfr.2.1,hfr.2.2.1,hfr.2.2.2.1,hfr.2.2.2.2.1,by rw [l5];exact hfr.2.2.2.2.2.1,fun _=>hat.symm,fun e=>by cases e⟩
  ·have hx0:=h.fr x (List.mem_of_getElem? hi)
   refine ⟨hx0.1,hx0.2.1,hx0.2.2.1,hx0.2.2.2.1,hx0.2.2.2.2.1,by rw [l5];exact hx0.2.2.2.2.2.1,fun e=>?_,hx0.2.2.2.2.2.2.2⟩
   show x.b=D'.latest (P.first+x.page)
   rw [hout _ (area _ hx0.1 hx0.2.1) (by have:=hne hi hik;omega)]
   exact hx0.2.2.2.2.2.2.1 e
 ·refine ⟨⟨rfl,rfl,rfl,l1,l2,l3,l4,l5,l6,hn,l7⟩,fun x h1 h2=>hout x h1 (by have:=hfr.1;have:=hfr.2.1;omega),fun p h1 h2=>?_,fun p=>?_,fun p h1 h2=>?_,fun x hx hxd=>?_,fun x hx hxd=>?_⟩
  ·by_cases c:∃ x∈P.ring,x.page=p
   ·obtain ⟨x,hx,rfl⟩:=c
    obtain ⟨i,hi⟩:=List.getElem?_of_mem hx
    rw [zvSy h.nd hx]
    by_cases hik:i=k
    ·subst hik
     rw [hf] at hi
     obtain rfl:=Option.some.inj hi
     exact zvSy (P:={ P with ring:=P.ring.set i { f with dirty:=false,first:=0 } }) (D:=D') (f:={ f with dirty:=false,first:=0 }) hnd1 (zb4S hf)
    ·exact zvSy (P:={ P with ring:=P.ring.set k { f with dirty:=false,first:=0 } }) (D:=D') hnd1 (zpy7 hi hik)
   ·have c1:∀ x∈P.ring,x.page≠p:=fun x hx e=>c ⟨x,hx,e⟩
    have c2:∀ x∈P.ring.set k { f with dirty:=false,first:=0 },x.page≠p:=fun x hx=>by
     rcases zunS hx with rfl | ⟨i,_,hi⟩
     ·exact c1 f hfm
     ·exact c1 x (List.mem_of_getElem? hi)
    rw [zzzb c1,zzzb (P:={ P with ring:=P.ring.set k { f with dirty:=false,first:=0 } }) c2]
    exact hout _ (area p h1 h2) (show P.first+p≠P.first+f.page by have:=c1 f hfm;omega)
  ·by_cases c:∃ x∈P.ring,x.page=p
   ·obtain ⟨x,hx,rfl⟩:=c
    obtain ⟨i,hi⟩:=List.getElem?_of_mem hx
    rw [zN5k h.nd hx]
    by_cases hik:i=k
    ·subst hik
     rw [hf] at hi
     obtain rfl:=Option.some.inj hi
     exact zN5k (P:={ P with ring:=P.ring.set i { f with dirty:=false,first:=0 } }) (f:={ f with dirty:=false,first:=0 }) hnd1 (zb4S hf)
    ·exact zN5k (P:={ P with ring:=P.ring.set k { f with dirty:=false,first:=0 } }) hnd1 (zpy7 hi hik)
   ·have c1:∀ x∈P.ring,x.page≠p:=fun x hx e=>c ⟨x,hx,e⟩
    have c2:∀ x∈P.ring.set k { f with dirty:=false,first:=0 },x.page≠p:=fun x hx=>by
     rcases zunS hx with rfl | ⟨i,_,hi⟩
     ·exact c1 f hfm
     ·exact c1 x (List.mem_of_getElem? hi)
    rw [zjuv c1,zjuv (P:={ P with ring:=P.ring.set k { f with dirty:=false,first:=0 } }) c2]
  ·by_cases e:p=f.page
   ·subst e
    exact .inr ⟨f,hfm,rfl,hd,hlast,hat⟩
   ·exact .inl (hout _ (area p h1 h2) (by omega))
  ·obtain ⟨i,hi⟩:=List.getElem?_of_mem hx
   by_cases hik:i=k
   ·subst hik
    rw [hf] at hi
    obtain rfl:=Option.some.inj hi
    exact .inr ⟨hlast,hat⟩
   ·exact .inl ⟨x,zpy7 hi hik,hxd,rfl,rfl,rfl,rfl⟩
  ·rcases zunS hx with rfl | ⟨i,hik,hi⟩
   ·cases hxd
   ·exact ⟨x,List.mem_of_getElem? hi,hxd,rfl,rfl,rfl,rfl⟩
theorem zsT4 {P:PoolM} {L:LogM} {D:DevM} {R:List RecM} {B:Int->UInt8} (hI:PoolI P L D) (hL:LogI D L R B) (hC:Calm D) (hfull:(P.ring.length:Int)=P.most) (hfree:∃ f∈P.ring,f.held<=0) :
  ∃ P' L' D' k f,zNrE (2*P.most+1).toNat P L D=(P',L',D',k,0)/\P'.ring[k]?=some f/\f.held<=0/\f.dirty=false/\PoolI P' L' D'/\LogI D' L' R B/\Calm D'/\Keeps P L D P' L' D':=by
 have m8:=hI.m8
 have hw:∀ f∈P.ring,∃ L' D',wrF P.first f L D=({ f with dirty:=false,first:=0 },L',D',0)/\LogI D' L' R B/\Calm D'/\D'.n=D.n/\(L'=L\/L'=zKV1 L)/\f.last < L'.safe/\D'.latest (P.first+f.page)=f.b /\
   ∀ k,(k < L.first\/L.first+L.count<=k)->k≠P.first+f.page->D'.latest k=D.latest k:=fun f hf=>by
  have h:=hI.fr f hf
  have:=hI.f0
  have:=hI.fn
  have:=hI.ap
  exact zLz4 hL hC (by omega) (by omega) (by omega) h.2.2.1 h.2.2.2.2.2.1
 have hcore:∀ (f g:FrM),g.core=f.core->(wrF P.first g L D).2=(wrF P.first f L D).2:=fun f g h=>by
  obtain ⟨c1,c2,c3,c4,c5,c6⟩:=zkyC h
  unfold wrF
  dsimp only
  rw [c1,c2,c6]
  (repeat' split)<;>rfl
 obtain ⟨P1,h1,h2,h3,h4,h5,h6,h7⟩:=zW1H (2*P.most+1).toNat P L D (by omega) hI.h0 hI.h1
 rcases h7 with h7 | ⟨k,f,a1,a2,a3,h7⟩
 ·exfalso
  obtain ⟨f,hf,hh⟩:=hfree
  obtain ⟨j,hj⟩:=List.getElem?_of_mem hf
  rcases zYNj (n:=(2*P.most+1).toNat) (L:=L) (D:=D) hj hh hI.h0 (by omega) with h8 | ⟨i,g,h8,h9⟩
  ·rw [h7] at h8;exact h8 rfl
  ·obtain ⟨L',D',e,_⟩:=hw g (List.mem_of_getElem? h8)
   rw [e] at h9
   exact absurd (show (0:Int)=9 from h9) (by decide)
 ·obtain ⟨g,hg,hc⟩:=h4.get a1
  obtain ⟨c1,c2,c3,c4,c5,c6⟩:=zkyC hc
  have hI1:=hI.same h1 h2 h3 h4 h5 h6
  have hK1:=Keeps.same hI h1 h2 h3 h4
  rcases h7 with ⟨b1,b2⟩ | ⟨b1,b2,b3⟩ | ⟨b1,b2,b3⟩
  ·exact ⟨P1,L,D,k,f,b2,a1,a2,b1,hI1,hL,hC,hK1⟩
  ·exfalso
   obtain ⟨L',D',e,_⟩:=hw g (List.mem_of_getElem? hg)
   have:=hcore g f hc
   rw [this,e] at b2
   exact b2 rfl
  ·have hfr:=hI1.fr f (List.mem_of_getElem? a1)
   have q1:=hI1.f0
   have q2:=hI1.fn
   have q3:=hI1.ap
   obtain ⟨L',D',e,e1,e2,e3,e4,e5,e6,e7⟩:=zLz4 hL hC (pf:=P.first) (f:=f) (by rw [<- h1];omega) (by rw [<- h1];omega) (by rw [<- h1];omega) hfr.2.2.1 hfr.2.2.2.2.2.1
   rw [<- h1] at e6 e7
   obtain ⟨w1,w2⟩:=wrote hI1 a1 b1 e3 e4 hL.sf e5 e6 e7
   rw [e] at b3
   refine ⟨_,L',D',k,{ f with dirty:=false,first:=0 },b3,?_,a2,rfl,w1,e1,e2,hK1.trans hI w2⟩
   show (P1.ring.set k _)[k]?=_
   rw [List.getElem?_set_self (List.getElem?_eq_some_iff.1 a1).1]
end Go.Proofs.Ytnbfhdgojmflhaa
