/-
  No statement is proved here.
-/
import Derived.Test.YtfgagakepmigbaaGreatJQt
namespace Go.Proofs.YtfgagakepmigbaaGreat
open Go.RowKit
def FrM.core (f:FrM):Int×Bytes×Int×Bool×Int×Int:=(f.page,f.b,f.held,f.dirty,f.first,f.last)
def SameR (l l':List FrM):Prop:=l'.map FrM.core=l.map FrM.core
theorem SameR.len {l l':List FrM} (h:SameR l l'):l'.length=l.length:=by
 have:=congrArg List.length h
 simpa using this
theorem SameR.get {l l':List FrM} (h:SameR l l') {i:Nat} {f':FrM} (hf:l'[i]?=some f'):∃ f,l[i]?=some f/\f'.core=f.core:=by
 have h1:(l'.map FrM.core)[i]?=(l.map FrM.core)[i]?:=by rw [h]
 rw [List.getElem?_map,List.getElem?_map,hf] at h1
 cases e:l[i]? with
 | none=>rw [e] at h1;cases h1
 | some f=>rw [e] at h1;exact ⟨f,rfl,Option.some.inj h1⟩
theorem SameR.symm {l l':List FrM} (h:SameR l l'):SameR l' l:=Eq.symm h
theorem SameR.trans {l l1 l2:List FrM} (h:SameR l l1) (k:SameR l1 l2):SameR l l2:=Eq.trans k h
theorem SameR.set {l:List FrM} {k:Nat} {f f':FrM} (hf:l[k]?=some f) (hc:f'.core=f.core):SameR l (l.set k f'):=by
 unfold SameR
 apply List.ext_getElem?
 intro i
 rw [List.getElem?_map,List.getElem?_map,List.getElem?_set]
 by_cases h:k=i
 ·subst h
  rw [if_pos rfl,hf]
  have:=(List.getElem?_eq_some_iff.1 hf).1
  simp [this,hc]
 ·rw [if_neg h]
theorem zkyC {f g:FrM} (h:f.core=g.core):f.page=g.page/\f.b=g.b/\f.held=g.held/\f.dirty=g.dirty/\f.first=g.first/\f.last=g.last:=by
 unfold FrM.core at h
 simp only [Prod.mk.injEq] at h
 obtain ⟨h1,h2,h3,h4,h5,h6⟩:=h
 exact ⟨h1,h2,h3,h4,h5,h6⟩
theorem SameR.pages {l l':List FrM} (h:SameR l l'):l'.map (·.page)=l.map (·.page):=by
 have:=congrArg (List.map Prod.fst) h
 rw [List.map_map,List.map_map] at this
 exact this
def EvS (P:PoolM) (L:LogM) (D:DevM) (x:PoolM×LogM×DevM×Nat×Int):Prop:=∃ P1:PoolM,P1.first=P.first/\P1.blocks=P.blocks/\P1.most=P.most/\SameR P.ring P1.ring/\0<=P1.hand/\P1.hand<=P1.ring.length /\
 (x=(P1,L,D,0,9)\/∃ k f,P1.ring[k]?=some f/\f.held<=0/\f.used=false /\
  ((f.dirty=false/\x=(P1,L,D,k,0)) \/
  (f.dirty=true/\(wrF P.first f L D).2.2.2≠0/\x=(P1,(wrF P.first f L D).2.1,(wrF P.first f L D).2.2.1,0,(wrF P.first f L D).2.2.2)) \/
  (f.dirty=true/\(wrF P.first f L D).2.2.2=0/\x=({ P1 with ring:=P1.ring.set k (wrF P.first f L D).1 },(wrF P.first f L D).2.1,(wrF P.first f L D).2.2.1,k,0))))
theorem EvS.up {P P0:PoolM} {L:LogM} {D:DevM} {x:PoolM×LogM×DevM×Nat×Int} (h:EvS P0 L D x) (h1:P0.first=P.first) (h2:P0.blocks=P.blocks) (h3:P0.most=P.most) (h4:SameR P.ring P0.ring):EvS P L D x:=by
 obtain ⟨P1,a1,a2,a3,a4,a5,a6,a7⟩:=h
 rw [h1] at a7
 exact ⟨P1,a1.trans h1,a2.trans h2,a3.trans h3,h4.trans a4,a5,a6,a7⟩
theorem zW1H:∀ (n:Nat) (P:PoolM) (L:LogM) (D:DevM),0 < P.ring.length->0<=P.hand->P.hand<=P.ring.length->EvS P L D (zNrE n P L D)
 | 0,P,L,D,_,h0,h1=>⟨P,rfl,rfl,rfl,rfl,h0,h1,.inl rfl⟩
 | n+1,P,L,D,hp,h0,h1=>by
  unfold zNrE
  dsimp only
  obtain ⟨k,hk⟩:∃ k,k=(P.hand % P.ring.length).toNat:=⟨_,rfl⟩
  rw [<- hk]
  cases e:P.ring[k]? with
  | none=>
   have h2:=Int.emod_nonneg P.hand (show (P.ring.length:Int)≠0 by omega)
   have h3:=Int.emod_lt_of_pos P.hand (show (0:Int) < P.ring.length by omega)
   have h4:=List.getElem?_eq_none_iff.1 e
   omega
  | some f=>
   dsimp only
   have hkl:=(List.getElem?_eq_some_iff.1 e).1
   by_cases c1:0 < f.held
   ·rw [if_pos c1]
    exact (zW1H n { P with hand:=(k:Int)+1 } L D hp (by show 0<=(k:Int)+1;omega) (by show (k:Int)+1<=P.ring.length;omega)).up rfl rfl rfl rfl
   ·rw [if_neg c1]
    by_cases c2:f.used=true
    ·rw [if_pos c2]
     refine (zW1H n _ L D (by show 0 < (P.ring.set k _).length;rw [List.length_set];exact hp) (by show 0<=(k:Int)+1;omega) (by show (k:Int)+1<=(P.ring.set k _).length;rw [List.length_set];omega)).up rfl rfl rfl ?_
     exact SameR.set e rfl
    ·rw [if_neg c2]
     refine ⟨{ P with hand:=(k:Int)+1 },rfl,rfl,rfl,rfl,by show 0<=(k:Int)+1;omega,by show (k:Int)+1<=P.ring.length;omega,.inr ⟨k,f,e,by omega,by simpa using c2,?_⟩⟩
     by_cases c3:f.dirty=true
     ·rw [if_pos c3]
      by_cases c4:(wrF P.first f L D).2.2.2≠0
      ·rw [if_pos c4];exact .inr (.inl ⟨c3,c4,rfl⟩)
      ·rw [if_neg c4];exact .inr (.inr ⟨c3,Decidable.not_not.1 c4,rfl⟩)
     ·rw [if_neg c3];exact .inl ⟨by simpa using c3,rfl⟩
theorem zvKC:∀ (n:Nat) (P:PoolM) (L:LogM) (D:DevM),0 < P.ring.length->0<=P.hand->(∀ f∈P.ring,0 < f.held)->(zNrE n P L D).2.2.2.2=9
 | 0,P,L,D,_,_,_=>rfl
 | n+1,P,L,D,hp,h0,hh=>by
  unfold zNrE
  dsimp only
  cases e:P.ring[(P.hand % P.ring.length).toNat]? with
  | none=>rfl
  | some f=>
   dsimp only
   rw [if_pos (hh f (List.mem_of_getElem? e))]
   exact zvKC n _ L D hp (by show 0<=(((P.hand % P.ring.length).toNat:Nat):Int)+1;omega) hh
theorem zsqO (pf:Int) (f:FrM) (u:Bool) (L:LogM) (D:DevM):(wrF pf { f with used:=u } L D).2=(wrF pf f L D).2:=by
 unfold wrF
 dsimp only
 (repeat' split)<;>rfl
theorem zbgi:∀ (n:Nat) (P:PoolM) (L:LogM) (D:DevM) (j d:Nat) (f:FrM),P.ring[j]?=some f->f.held<=0->f.used=false->0<=P.hand->d < n->(P.hand.toNat+d) % P.ring.length=j->(zNrE n P L D).2.2.2.2≠9\/∃ (i:Nat) (g:FrM),P.ring[i]?=some g/\(wrF P.first g L D).2.2.2=9
 | 0,P,L,D,j,d,f,_,_,_,_,hd,_=>by omega
 | n+1,P,L,D,j,d,f,hj,hh,hu,h0,hd,hm=>by
  have hjl:=(List.getElem?_eq_some_iff.1 hj).1
  have hp:0 < P.ring.length:=by omega
  unfold zNrE
  dsimp only
  obtain ⟨k,hk⟩:∃ k,k=(P.hand % P.ring.length).toNat:=⟨_,rfl⟩
  have hkn:k=P.hand.toNat % P.ring.length:=by
   obtain ⟨m0,hm0⟩:=Int.eq_ofNat_of_zero_le h0
   rw [hk,hm0,<- Int.natCast_emod,Int.toNat_natCast,Int.toNat_natCast]
  have hkl:k < P.ring.length:=by rw [hkn];exact Nat.mod_lt _ hp
  rw [<- hk]
  rw [List.getElem?_eq_getElem hkl]
  dsimp only
  have hwr:∀ g:FrM,P.ring[k]?=some g->(if g.dirty=true then (if (wrF P.first g L D).2.2.2≠0 then (({ P with hand:=(k:Int)+1 }:PoolM),(wrF P.first g L D).2.1,(wrF P.first g L D).2.2.1,0,(wrF P.first g L D).2.2.2) else ({ P with hand:=(k:Int)+1,ring:=P.ring.set k (wrF P.first g L D).1 },(wrF P.first g L D).2.1,(wrF P.first g L D).2.2.1,k,0)) else (({ P with hand:=(k:Int)+1 }:PoolM),L,D,k,0)).2.2.2.2≠9\/∃ (i:Nat) (g:FrM),P.ring[i]?=some g/\(wrF P.first g L D).2.2.2=9:=fun g hg=>by
   by_cases c9:(wrF P.first g L D).2.2.2=9
   ·exact .inr ⟨k,g,hg,c9⟩
   ·left
    split
    ·split
     ·exact c9
     ·exact (by decide:(0:Int)≠9)
    ·exact (by decide:(0:Int)≠9)
  by_cases hkj:k=j
  ·have e:P.ring[k]=f:=by
    have:=hj
    rw [<- hkj,List.getElem?_eq_getElem hkl] at this
    exact Option.some.inj this
   rw [e,if_neg (by omega),if_neg (by rw [hu];decide)]
   exact hwr f (by rw [hkj];exact hj)
  ·have hd0:d≠0:=by
    intro h
    rw [h,Nat.add_zero,<- hkn] at hm
    exact hkj hm
   have hmod:((k+1)+(d - 1)) % P.ring.length=j:=by
    rw [show (k+1)+(d - 1)=k+d by omega,hkn,Nat.mod_add_mod]
    exact hm
   by_cases c1:0 < P.ring[k].held
   ·rw [if_pos c1]
    rcases zbgi n { P with hand:=(k:Int)+1 } L D j (d - 1) f hj hh hu (by show 0<=(k:Int)+1;omega) (by omega) (by
     show (((k:Int)+1).toNat+(d - 1)) % P.ring.length=j
     rw [show ((k:Int)+1).toNat=k+1 by omega];exact hmod) with h | ⟨i,g,h1,h2⟩
    ·exact .inl h
    ·exact .inr ⟨i,g,h1,h2⟩
   ·rw [if_neg c1]
    by_cases c2:P.ring[k].used=true
    ·rw [if_pos c2]
     rcases zbgi n { P with hand:=(k:Int)+1,ring:=P.ring.set k { P.ring[k] with used:=false } } L D j (d - 1) f (by
      show (P.ring.set k _)[j]?=some f
      rw [List.getElem?_set_ne hkj];exact hj) hh hu (by show 0<=(k:Int)+1;omega) (by omega) (by
      show (((k:Int)+1).toNat+(d - 1)) % (P.ring.set k _).length=j
      rw [List.length_set,show ((k:Int)+1).toNat=k+1 by omega];exact hmod) with h | ⟨i,g,h1,h2⟩
     ·exact .inl h
     ·right
      have h1':(P.ring.set k { P.ring[k] with used:=false })[i]?=some g:=h1
      by_cases hki:k=i
      ·subst hki
       rw [List.getElem?_set_self hkl] at h1'
       obtain rfl:=Option.some.inj h1'
       refine ⟨k,P.ring[k],List.getElem?_eq_getElem hkl,?_⟩
       rw [<- h2,<- zsqO P.first P.ring[k] false L D]
      ·rw [List.getElem?_set_ne hki] at h1'
       exact ⟨i,g,h1',h2⟩
    ·rw [if_neg c2]
     exact hwr _ (List.getElem?_eq_getElem hkl)
theorem zjFa:∀ (n:Nat) (P:PoolM) (L:LogM) (D:DevM) (j d:Nat) (f:FrM),P.ring[j]?=some f->f.held<=0->0<=P.hand->d < P.ring.length->d+P.ring.length < n->(P.hand.toNat+d) % P.ring.length=j->(zNrE n P L D).2.2.2.2≠9\/∃ (i:Nat) (g:FrM),P.ring[i]?=some g/\(wrF P.first g L D).2.2.2=9
 | 0,P,L,D,j,d,f,_,_,_,_,hd,_=>by omega
 | n+1,P,L,D,j,d,f,hj,hh,h0,hdl,hd,hm=>by
  have hjl:=(List.getElem?_eq_some_iff.1 hj).1
  have hp:0 < P.ring.length:=by omega
  unfold zNrE
  dsimp only
  obtain ⟨k,hk⟩:∃ k,k=(P.hand % P.ring.length).toNat:=⟨_,rfl⟩
  have hkn:k=P.hand.toNat % P.ring.length:=by
   obtain ⟨m0,hm0⟩:=Int.eq_ofNat_of_zero_le h0
   rw [hk,hm0,<- Int.natCast_emod,Int.toNat_natCast,Int.toNat_natCast]
  have hkl:k < P.ring.length:=by rw [hkn];exact Nat.mod_lt _ hp
  rw [<- hk]
  rw [List.getElem?_eq_getElem hkl]
  dsimp only
  have hwr:∀ g:FrM,P.ring[k]?=some g->(if g.dirty=true then (if (wrF P.first g L D).2.2.2≠0 then (({ P with hand:=(k:Int)+1 }:PoolM),(wrF P.first g L D).2.1,(wrF P.first g L D).2.2.1,0,(wrF P.first g L D).2.2.2) else ({ P with hand:=(k:Int)+1,ring:=P.ring.set k (wrF P.first g L D).1 },(wrF P.first g L D).2.1,(wrF P.first g L D).2.2.1,k,0)) else (({ P with hand:=(k:Int)+1 }:PoolM),L,D,k,0)).2.2.2.2≠9\/∃ (i:Nat) (g:FrM),P.ring[i]?=some g/\(wrF P.first g L D).2.2.2=9:=fun g hg=>by
   by_cases c9:(wrF P.first g L D).2.2.2=9
   ·exact .inr ⟨k,g,hg,c9⟩
   ·left
    split
    ·split
     ·exact c9
     ·exact (by decide:(0:Int)≠9)
    ·exact (by decide:(0:Int)≠9)
  have hset:∀ {i:Nat} {g:FrM},(P.ring.set k { P.ring[k] with used:=false })[i]?=some g->(wrF P.first g L D).2.2.2=9->∃ (i:Nat) (g:FrM),P.ring[i]?=some g/\(wrF P.first g L D).2.2.2=9:=fun {i g} h1' h2=>by
   by_cases hki:k=i
   ·subst hki
    rw [List.getElem?_set_self hkl] at h1'
    obtain rfl:=Option.some.inj h1'
    refine ⟨k,P.ring[k],List.getElem?_eq_getElem hkl,?_⟩
    rw [<- h2,<- zsqO P.first P.ring[k] false L D]
   ·rw [List.getElem?_set_ne hki] at h1'
    exact ⟨i,g,h1',h2⟩
  by_cases hkj:k=j
  ·have e:P.ring[k]=f:=by
    have:=hj
    rw [<- hkj,List.getElem?_eq_getElem hkl] at this
    exact Option.some.inj this
   rw [if_neg (by rw [e];omega)]
   by_cases hu:P.ring[k].used=true
   ·rw [if_pos hu]
    rcases zbgi n { P with hand:=(k:Int)+1,ring:=P.ring.set k { P.ring[k] with used:=false } } L D j (P.ring.length - 1) { P.ring[k] with used:=false } (by
     show (P.ring.set k _)[j]?=_
     rw [<- hkj,List.getElem?_set_self hkl]) (by show P.ring[k].held<=0;rw [e];exact hh) rfl (by show 0<=(k:Int)+1;omega) (by omega) (by
     show (((k:Int)+1).toNat+(P.ring.length - 1)) % (P.ring.set k _).length=j
     rw [List.length_set,show ((k:Int)+1).toNat+(P.ring.length - 1)=k+P.ring.length by omega,Nat.add_mod_right,Nat.mod_eq_of_lt hkl]
     exact hkj) with h | ⟨i,g,h1,h2⟩
    ·exact .inl h
    ·exact .inr (hset h1 h2)
   ·rw [if_neg hu]
    exact hwr _ (List.getElem?_eq_getElem hkl)
  ·have hd0:d≠0:=by
    intro h
    rw [h,Nat.add_zero,<- hkn] at hm
    exact hkj hm
   have hmod:((k+1)+(d - 1)) % P.ring.length=j:=by
    rw [show (k+1)+(d - 1)=k+d by omega,hkn,Nat.mod_add_mod]
    exact hm
   by_cases c1:0 < P.ring[k].held
   ·rw [if_pos c1]
    rcases zjFa n { P with hand:=(k:Int)+1 } L D j (d - 1) f hj hh (by show 0<=(k:Int)+1;omega) (by show d - 1 < P.ring.length;omega) (by show d - 1+P.ring.length < n;omega) (by
     show (((k:Int)+1).toNat+(d - 1)) % P.ring.length=j
     rw [show ((k:Int)+1).toNat=k+1 by omega];exact hmod) with h | ⟨i,g,h1,h2⟩
    ·exact .inl h
    ·exact .inr ⟨i,g,h1,h2⟩
   ·rw [if_neg c1]
    by_cases c2:P.ring[k].used=true
    ·rw [if_pos c2]
     rcases zjFa n { P with hand:=(k:Int)+1,ring:=P.ring.set k { P.ring[k] with used:=false } } L D j (d - 1) f (by
      show (P.ring.set k _)[j]?=some f
      rw [List.getElem?_set_ne hkj];exact hj) hh (by show 0<=(k:Int)+1;omega) (by show d - 1 < (P.ring.set k _).length;rw [List.length_set];omega) (by show d - 1+(P.ring.set k _).length < n;rw [List.length_set];omega) (by
      show (((k:Int)+1).toNat+(d - 1)) % (P.ring.set k _).length=j
      rw [List.length_set,show ((k:Int)+1).toNat=k+1 by omega];exact hmod) with h | ⟨i,g,h1,h2⟩
     ·exact .inl h
     ·exact .inr (hset h1 h2)
    ·rw [if_neg c2]
     exact hwr _ (List.getElem?_eq_getElem hkl)
theorem zYNj {n:Nat} {P:PoolM} {L:LogM} {D:DevM} {j:Nat} {f:FrM} (hj:P.ring[j]?=some f) (hh:f.held<=0) (h0:0<=P.hand) (hn:2*P.ring.length < n+1):(zNrE n P L D).2.2.2.2≠9\/∃ (i:Nat) (g:FrM),P.ring[i]?=some g/\(wrF P.first g L D).2.2.2=9:=by
 have hjl:=(List.getElem?_eq_some_iff.1 hj).1
 have hp:0 < P.ring.length:=by omega
 obtain ⟨h,hh'⟩:∃ h,h=P.hand.toNat % P.ring.length:=⟨_,rfl⟩
 have hl:h < P.ring.length:=by rw [hh'];exact Nat.mod_lt _ hp
 by_cases c:h<=j
 ·refine zjFa n P L D j (j - h) f hj hh h0 (by omega) (by omega) ?_
  rw [Nat.add_mod,<- hh',<- Nat.add_mod_mod,Nat.mod_mod,Nat.add_mod_mod,show h+(j - h)=j by omega,Nat.mod_eq_of_lt hjl]
 ·refine zjFa n P L D j (j+P.ring.length - h) f hj hh h0 (by omega) (by omega) ?_
  rw [Nat.add_mod,<- hh',<- Nat.add_mod_mod,Nat.mod_mod,Nat.add_mod_mod,show h+(j+P.ring.length - h)=j+P.ring.length by omega,Nat.add_mod_right,Nat.mod_eq_of_lt hjl]
theorem zLz4 {D:DevM} {L:LogM} {R:List RecM} {B:Int->UInt8} (h:LogI D L R B) (hc:Calm D) {pf:Int} {f:FrM} (h0:0<=pf+f.page) (h1:pf+f.page < D.n) (hout:pf+f.page < L.first\/L.first+L.count<=pf+f.page) (hb:f.b.length=512) (hl:f.last < L.fin) :
  ∃ L' D',wrF pf f L D=({ f with dirty:=false,first:=0 },L',D',0)/\LogI D' L' R B/\Calm D'/\D'.n=D.n/\(L'=L\/L'=zKV1 L)/\f.last < L'.safe/\D'.latest (pf+f.page)=f.b /\
   ∀ k,(k < L.first\/L.first+L.count<=k)->k≠pf+f.page->D'.latest k=D.latest k:=by
 have put:∀ {D1:DevM} {L1:LogM},LogI D1 L1 R B->Calm D1->D1.n=D.n->L1.first=L.first->L1.count=L.count->D1.write (pf+f.page) f.b=(0,D1.put (pf+f.page) f.b)/\LogI (D1.put (pf+f.page) f.b) L1 R B/\Calm (D1.put (pf+f.page) f.b):=fun {D1 L1} hI hC hn hf hcn=>by
  refine ⟨hC.write h0 (by omega) hb,hI.dev rfl hC.d (fun k=>?_) hI.slen (fun k k1 k2=>?_),⟨hC.a,hC.d,hC.n⟩⟩
  ·rw [z4uV];split
   ·exact hb
   ·exact hI.len k
  ·rw [z4uV]
   have hk:k≠pf+f.page:=by omega
   rw [if_neg hk]
   refine ⟨rfl,?_⟩
   show updF D1.opn (pf+f.page) f.b k=none
   unfold updF
   rw [if_neg hk]
   exact hI.nop k k1 k2
 unfold wrF
 dsimp only
 by_cases hs:L.safe<=f.last
 ·obtain ⟨D1,e1,c1,n1,i1,o1,_⟩:=zi5U h hc
  obtain ⟨a1,a2,_,_,a5,a6,_⟩:=zvn3 L
  obtain ⟨w1,w2,w3⟩:=put i1 c1 n1 a1 a2
  rw [if_pos hs,e1]
  dsimp only
  rw [if_neg (by decide),w1]
  dsimp only
  rw [if_neg (by decide)]
  refine ⟨_,_,rfl,w2,w3,n1,.inr rfl,by rw [a6];exact hl,by rw [z4uV,if_pos rfl],fun k hk hne=>?_⟩
  rw [z4uV,if_neg hne]
  exact o1 k hk
 ·obtain ⟨w1,w2,w3⟩:=put h hc rfl rfl rfl
  rw [if_neg hs]
  dsimp only
  rw [if_neg (by decide),w1]
  dsimp only
  rw [if_neg (by decide)]
  refine ⟨_,_,rfl,w2,w3,rfl,.inl rfl,by omega,by rw [z4uV,if_pos rfl],fun k hk hne=>?_⟩
  rw [z4uV,if_neg hne]
def PoolM.heldOf (P:PoolM) (page:Int):Int:=match P.ring[P.at page]? with | some f=>f.held | none=>0
theorem zN5k {P:PoolM} (hnd:(P.ring.map (·.page)).Nodup) {f:FrM} (h:f∈P.ring):P.heldOf f.page=f.held:=by
 obtain ⟨i,hi⟩:=List.getElem?_of_mem h
 unfold PoolM.heldOf
 rw [zMbS hnd hi,hi]
theorem zjuv {P:PoolM} {page:Int} (h:∀ f∈P.ring,f.page≠page):P.heldOf page=0:=by
 unfold PoolM.heldOf
 cases e:P.ring[P.at page]? with
 | none=>rfl
 | some f=>exact absurd (zyH5 e) (h f (List.mem_of_getElem? e))
def FrM.alike (f g:FrM):Prop:=g.page=f.page/\g.b=f.b/\g.last=f.last/\g.first=f.first
structure Keeps (P:PoolM) (L:LogM) (D:DevM) (P':PoolM) (L':LogM) (D':DevM):Prop where
 like:Like P L D P' L' D'
 out:∀ k,(k < L.first\/L.first+L.count<=k)->(k < P.first\/P.first+P.blocks<=k)->D'.latest k=D.latest k
 cur:∀ p,0<=p->p < P.blocks->P'.cur D' p=P.cur D p
 held:∀ p,P'.heldOf p=P.heldOf p
 dev:∀ p,0<=p->p < P.blocks->D'.latest (P.first+p)=D.latest (P.first+p)\/∃ f∈P.ring,f.page=p/\f.dirty=true/\f.last < L'.safe/\D'.latest (P.first+p)=f.b
 dirty:∀ f∈P.ring,f.dirty=true->(∃ g∈P'.ring,g.dirty=true/\f.alike g)\/(f.last < L'.safe/\D'.latest (P.first+f.page)=f.b)
 new:∀ g∈P'.ring,g.dirty=true->∃ f∈P.ring,f.dirty=true/\f.alike g
theorem Keeps.refl (P:PoolM) (L:LogM) (D:DevM):Keeps P L D P L D:=
 ⟨Like.refl _ _ _,fun _ _ _=>rfl,fun _ _ _=>rfl,fun _=>rfl,fun _ _ _=>.inl rfl,fun f hf hd=>.inl ⟨f,hf,hd,rfl,rfl,rfl,rfl⟩,fun f hf hd=>⟨f,hf,hd,rfl,rfl,rfl,rfl⟩⟩
theorem Keeps.trans {P P1 P2:PoolM} {L L1 L2:LogM} {D D1 D2:DevM} (hI:PoolI P L D) (h:Keeps P L D P1 L1 D1) (k:Keeps P1 L1 D1 P2 L2 D2):Keeps P L D P2 L2 D2:=by
 have l1:=h.like
 have l2:=k.like
 have hs:=l2.safe
 refine ⟨l1.trans l2,fun x h1 h2=>?_,fun p h1 h2=>?_,fun p=>(k.held p).trans (h.held p),fun p h1 h2=>?_,fun f hf hd=>?_,fun g hg hd=>?_⟩
 ·rw [k.out x (by rw [l1.lf,l1.lc];exact h1) (by rw [l1.pf,l1.pb];exact h2)]
  exact h.out x h1 h2
 ·rw [k.cur p h1 (by rw [l1.pb];exact h2)]
  exact h.cur p h1 h2
 ·have k1:=k.dev p h1 (by rw [l1.pb];exact h2)
  rw [l1.pf] at k1
  rcases k1 with e | ⟨f1,a1,a2,a3,a4,a5⟩
  ·rcases h.dev p h1 h2 with e2 | ⟨f,b1,b2,b3,b4,b5⟩
   ·exact .inl (e.trans e2)
   ·exact .inr ⟨f,b1,b2,b3,by omega,e.trans b5⟩
  ·obtain ⟨f,b1,b2,b3,b4,b5,b6⟩:=h.new f1 a1 a3
   exact .inr ⟨f,b1,by rw [<- b3];exact a2,b2,by rw [<- b5];exact a4,by rw [a5,b4]⟩
 ·have hp:=hI.fr f hf
  rcases h.dirty f hf hd with ⟨g,g1,g2,g3,g4,g5,g6⟩ | ⟨a1,a2⟩
  ·rcases k.dirty g g1 g2 with ⟨g',q1,q2,q3,q4,q5,q6⟩ | ⟨a1,a2⟩
   ·exact .inl ⟨g',q1,q2,q3.trans g3,q4.trans g4,q5.trans g5,q6.trans g6⟩
   ·exact .inr ⟨by rw [<- g5];exact a1,by rw [<- g4,<- g3,<- l1.pf];exact a2⟩
  ·have k1:=k.dev f.page hp.1 (by rw [l1.pb];exact hp.2.1)
   rw [l1.pf] at k1
   rcases k1 with e | ⟨f1,b1,b2,b3,b4,b5⟩
   ·exact .inr ⟨by omega,e.trans a2⟩
   ·obtain ⟨f0,c1,c2,c3,c4,c5,c6⟩:=h.new f1 b1 b3
    have e0:f0=f:=by
     obtain ⟨i,hi⟩:=List.getElem?_of_mem c1
     obtain ⟨j,hj⟩:=List.getElem?_of_mem hf
     have q1:=zMbS hI.nd hi
     have q2:=zMbS hI.nd hj
     rw [<- c3,b2,q2] at q1
     rw [<- q1,hj] at hi
     exact (Option.some.inj hi).symm
    subst e0
    exact .inr ⟨by rw [<- c5];exact b4,by rw [b5,c4]⟩
 ·obtain ⟨f1,a1,a2,a3,a4,a5,a6⟩:=k.new g hg hd
  obtain ⟨f,b1,b2,b3,b4,b5,b6⟩:=h.new f1 a1 a2
  exact ⟨f,b1,b2,a3.trans b3,a4.trans b4,a5.trans b5,a6.trans b6⟩
theorem PoolI.same {P P1:PoolM} {L:LogM} {D:DevM} (h:PoolI P L D) (h1:P1.first=P.first) (h2:P1.blocks=P.blocks) (h3:P1.most=P.most) (h4:SameR P.ring P1.ring) (h5:0<=P1.hand) (h6:P1.hand<=P1.ring.length):PoolI P1 L D:=by
 refine ⟨by rw [h1];exact h.f0,by rw [h2];exact h.b1,by rw [h1,h2];exact h.fn,h.dn,by rw [h1,h2];exact h.ap,by rw [h3];exact h.m8,by rw [h3];exact h.m1,by rw [h4.len,h3];exact h.len,h5,h6,by rw [h4.pages];exact h.nd,fun f hf=>?_⟩
 obtain ⟨i,hi⟩:=List.getElem?_of_mem hf
 obtain ⟨g,hg,hc⟩:=h4.get hi
 obtain ⟨c1,c2,c3,c4,c5,c6⟩:=zkyC hc
 have:=h.fr g (List.mem_of_getElem? hg)
 rw [c1,c2,c3,c4,c5,c6,h1,h2]
 exact this
theorem Keeps.same {P P1:PoolM} {L:LogM} {D:DevM} (h:PoolI P L D) (h1:P1.first=P.first) (h2:P1.blocks=P.blocks) (h3:P1.most=P.most) (h4:SameR P.ring P1.ring):Keeps P L D P1 L D:=by
 have hnd1:(P1.ring.map (·.page)).Nodup:=by rw [h4.pages];exact h.nd
 have key:∀ p,(∃ f∈P.ring,∃ g∈P1.ring,f.page=p/\g.core=f.core)\/((∀ f∈P.ring,f.page≠p)/\∀ g∈P1.ring,g.page≠p):=fun p=>by
  by_cases c:∃ f∈P.ring,f.page=p
  ·obtain ⟨f,hf,hp⟩:=c
   obtain ⟨i,hi⟩:=List.getElem?_of_mem hf
   obtain ⟨g,hg,hc⟩:=h4.symm.get hi
   exact .inl ⟨f,hf,g,List.mem_of_getElem? hg,hp,hc.symm⟩
  ·refine .inr ⟨fun f hf e=>c ⟨f,hf,e⟩,fun g hg e=>?_⟩
   obtain ⟨i,hi⟩:=List.getElem?_of_mem hg
   obtain ⟨f,hf,hc⟩:=h4.get hi
   exact c ⟨f,List.mem_of_getElem? hf,by rw [<- (zkyC hc).1];exact e⟩
 refine ⟨⟨h1,h2,h3,rfl,rfl,rfl,rfl,rfl,Int.le_refl _,rfl,rfl⟩,fun _ _ _=>rfl,fun p _ _=>?_,fun p=>?_,fun _ _ _=>.inl rfl,fun f hf hd=>.inl ?_,fun g hg hd=>?_⟩
 ·rcases key p with ⟨f,hf,g,hg,rfl,hc⟩ | ⟨a1,a2⟩
  ·obtain ⟨c1,c2,_⟩:=zkyC hc
   rw [zvSy h.nd hf,<- c1,zvSy hnd1 hg,c2]
  ·rw [zzzb a1,zzzb a2,h1]
 ·rcases key p with ⟨f,hf,g,hg,rfl,hc⟩ | ⟨a1,a2⟩
  ·obtain ⟨c1,_,c3,_⟩:=zkyC hc
   rw [zN5k h.nd hf,<- c1,zN5k hnd1 hg,c3]
  ·rw [zjuv a1,zjuv a2]
 ·obtain ⟨i,hi⟩:=List.getElem?_of_mem hf
  obtain ⟨g,hg,hc⟩:=h4.symm.get hi
  obtain ⟨c1,c2,c3,c4,c5,c6⟩:=zkyC hc
  exact ⟨g,List.mem_of_getElem? hg,by rw [<- c4];exact hd,c1.symm,c2.symm,c6.symm,c5.symm⟩
 ·obtain ⟨i,hi⟩:=List.getElem?_of_mem hg
  obtain ⟨f,hf,hc⟩:=h4.get hi
  obtain ⟨c1,c2,c3,c4,c5,c6⟩:=zkyC hc
  exact ⟨f,List.mem_of_getElem? hf,by rw [<- c4];exact hd,c1,c2,c6,c5⟩
theorem zunS {l:List FrM} {k:Nat} {g x:FrM} (h:x∈l.set k g):x=g\/∃ i,i≠k/\l[i]?=some x:=by
 obtain ⟨i,hi⟩:=List.getElem?_of_mem h
 by_cases e:k=i
 ·subst e
  have hl:k < l.length:=by have:=(List.getElem?_eq_some_iff.1 hi).1;simpa using this
  rw [List.getElem?_set_self hl] at hi
  exact .inl (Option.some.inj hi).symm
 ·rw [List.getElem?_set_ne e] at hi
  exact .inr ⟨i,fun e2=>e e2.symm,hi⟩
theorem zpy7 {l:List FrM} {k i:Nat} {g x:FrM} (h:l[i]?=some x) (hne:i≠k):x∈l.set k g:=by
 refine List.mem_of_getElem? (i:=i) ?_
 rw [List.getElem?_set_ne (fun e=>hne e.symm)]
 exact h
theorem zb4S {l:List FrM} {k:Nat} {f g:FrM} (h:l[k]?=some f):g∈l.set k g:=by
 refine List.mem_of_getElem? (i:=k) ?_
 rw [List.getElem?_set_self (List.getElem?_eq_some_iff.1 h).1]
theorem zltG {l:List FrM} {k:Nat} {f g:FrM} (h:l[k]?=some f) (hp:g.page=f.page):(l.set k g).map (·.page)=l.map (·.page):=by
 rw [List.map_set]
 apply List.ext_getElem?
 intro i
 rw [List.getElem?_set]
 by_cases e:k=i
 ·subst e
  rw [if_pos rfl,List.getElem?_map,h]
  have:=(List.getElem?_eq_some_iff.1 h).1
  simp [this,hp]
 ·rw [if_neg e]
theorem wrote {P:PoolM} {L L':LogM} {D D':DevM} (h:PoolI P L D) {k:Nat} {f:FrM} (hf:P.ring[k]?=some f) (hd:f.dirty=true) (hn:D'.n=D.n) (hL:L'=L\/L'=zKV1 L) (hsf:L.safe<=L.fin) (hlast:f.last < L'.safe) (hat:D'.latest (P.first+f.page)=f.b)
  (hout:∀ k,(k < L.first\/L.first+L.count<=k)->k≠P.first+f.page->D'.latest k=D.latest k) :
  PoolI { P with ring:=P.ring.set k { f with dirty:=false,first:=0 } } L' D'/\Keeps P L D { P with ring:=P.ring.set k { f with dirty:=false,first:=0 } } L' D':=by
 have hfl:L'.first=L.first/\L'.count=L.count/\L'.turn=L.turn/\L'.oldest=L.oldest/\L'.fin=L.fin/\L.safe<=L'.safe/\L'.lsns=L.lsns:=by
  rcases hL with rfl | rfl
  ·exact ⟨rfl,rfl,rfl,rfl,rfl,Int.le_refl _,rfl⟩
  ·obtain ⟨a1,a2,a3,a4,a5,a6,a7⟩:=zvn3 L
   exact ⟨a1,a2,a3,a4,a5,by omega,a7⟩
 obtain ⟨l1,l2,l3,l4,l5,l6,l7⟩:=hfl
 have hfm:=List.mem_of_getElem? hf
 have hfr:=h.fr f hfm
 have hpg:(P.ring.set k { f with dirty:=false,first:=0 }).map (·.page)=P.ring.map (·.page):=zltG hf rfl
 have hnd1:((P.ring.set k { f with dirty:=false,first:=0 }).map (·.page)).Nodup:=by rw [hpg];exact h.nd
 have hne:∀ {i:Nat} {x:FrM},P.ring[i]?=some x->i≠k->x.page≠f.page:=fun {i x} hi hik e=>hik (by
  have q1:=zMbS h.nd hi
  have q2:=zMbS h.nd hf
  rw [e,q2] at q1
  exact q1.symm)
 have area:∀ p,0<=p->p < P.blocks->(P.first+p < L.first\/L.first+L.count<=P.first+p):=fun p a b=>by have:=h.ap;omega
 refine ⟨⟨h.f0,h.b1,by rw [hn];exact h.fn,by rw [hn];exact h.dn,by rw [l1,l2];exact h.ap,h.m8,h.m1,by show ((P.ring.set k _).length:Int)<=P.most;rw [List.length_set];exact h.len,h.h0,by show P.hand<=((P.ring.set k _).length:Int);rw [List.length_set];exact h.h1,hnd1,fun x hx=>?_⟩,?_⟩
 ·rcases zunS hx with rfl | ⟨i,hik,hi⟩
  ·exact ⟨hfr.1,hfr.2.1,hfr.2.2.1,hfr.2.2.2.1,hfr.2.2.2.2.1,by rw [l5];exact hfr.2.2.2.2.2.1,fun _=>hat.symm,fun e=>by cases e⟩
  ·have hx0:=h.fr x (List.mem_of_getElem? hi)
   refine ⟨hx0.1,hx0.2.1,hx0.2.2.1,hx0.2.2.2.1,hx0.2.2.2.2.1,by rw [l5];exact hx0.2.2.2.2.2.1,fun e=>?_,hx0.2.2.2.2.2.2.2⟩
   show x.b=D'.latest (P.first+x.page)
   rw [hout _ (area _ hx0.1 hx0.2.1) (by have:=hne hi hik;omega)]
   exact hx0.2.2.2.2.2.2.1 e
 ·refine ⟨⟨rfl,rfl,rfl,l1,l2,l3,l4,l5,l6,hn,l7⟩,fun x h1 h2=>hout x h1 (by have:=hfr.1;have:=hfr.2.1;omega),fun p h1 h2=>?_,fun p=>?_,fun p h1 h2=>?_,fun x hx hxd=>?_,fun x hx hxd=>?_⟩
  ·by_cases c:∃ x∈P.ring,x.page=p
   ·obtain ⟨x,hx,rfl⟩:=c
    obtain ⟨i,hi⟩:=List.getElem?_of_mem hx
    rw [zvSy h.nd hx]
    by_cases hik:i=k
    ·subst hik
     rw [hf] at hi
     obtain rfl:=Option.some.inj hi
     exact zvSy (P:={ P with ring:=P.ring.set i { f with dirty:=false,first:=0 } }) (D:=D') (f:={ f with dirty:=false,first:=0 }) hnd1 (zb4S hf)
    ·exact zvSy (P:={ P with ring:=P.ring.set k { f with dirty:=false,first:=0 } }) (D:=D') hnd1 (zpy7 hi hik)
   ·have c1:∀ x∈P.ring,x.page≠p:=fun x hx e=>c ⟨x,hx,e⟩
    have c2:∀ x∈P.ring.set k { f with dirty:=false,first:=0 },x.page≠p:=fun x hx=>by
     rcases zunS hx with rfl | ⟨i,_,hi⟩
     ·exact c1 f hfm
     ·exact c1 x (List.mem_of_getElem? hi)
    rw [zzzb c1,zzzb (P:={ P with ring:=P.ring.set k { f with dirty:=false,first:=0 } }) c2]
    exact hout _ (area p h1 h2) (show P.first+p≠P.first+f.page by have:=c1 f hfm;omega)
  ·by_cases c:∃ x∈P.ring,x.page=p
   ·obtain ⟨x,hx,rfl⟩:=c
    obtain ⟨i,hi⟩:=List.getElem?_of_mem hx
    rw [zN5k h.nd hx]
    by_cases hik:i=k
    ·subst hik
     rw [hf] at hi
     obtain rfl:=Option.some.inj hi
     exact zN5k (P:={ P with ring:=P.ring.set i { f with dirty:=false,first:=0 } }) (f:={ f with dirty:=false,first:=0 }) hnd1 (zb4S hf)
    ·exact zN5k (P:={ P with ring:=P.ring.set k { f with dirty:=false,first:=0 } }) hnd1 (zpy7 hi hik)
   ·have c1:∀ x∈P.ring,x.page≠p:=fun x hx e=>c ⟨x,hx,e⟩
    have c2:∀ x∈P.ring.set k { f with dirty:=false,first:=0 },x.page≠p:=fun x hx=>by
     rcases zunS hx with rfl | ⟨i,_,hi⟩
     ·exact c1 f hfm
     ·exact c1 x (List.mem_of_getElem? hi)
    rw [zjuv c1,zjuv (P:={ P with ring:=P.ring.set k { f with dirty:=false,first:=0 } }) c2]
  ·by_cases e:p=f.page
   ·subst e
    exact .inr ⟨f,hfm,rfl,hd,hlast,hat⟩
   ·exact .inl (hout _ (area p h1 h2) (by omega))
  ·obtain ⟨i,hi⟩:=List.getElem?_of_mem hx
   by_cases hik:i=k
   ·subst hik
    rw [hf] at hi
    obtain rfl:=Option.some.inj hi
    exact .inr ⟨hlast,hat⟩
   ·exact .inl ⟨x,zpy7 hi hik,hxd,rfl,rfl,rfl,rfl⟩
  ·rcases zunS hx with rfl | ⟨i,hik,hi⟩
   ·cases hxd
   ·exact ⟨x,List.mem_of_getElem? hi,hxd,rfl,rfl,rfl,rfl⟩
theorem zsT4 {P:PoolM} {L:LogM} {D:DevM} {R:List RecM} {B:Int->UInt8} (hI:PoolI P L D) (hL:LogI D L R B) (hC:Calm D) (hfull:(P.ring.length:Int)=P.most) (hfree:∃ f∈P.ring,f.held<=0) :
  ∃ P' L' D' k f,zNrE (2*P.most+1).toNat P L D=(P',L',D',k,0)/\P'.ring[k]?=some f/\f.held<=0/\f.dirty=false/\PoolI P' L' D'/\LogI D' L' R B/\Calm D'/\Keeps P L D P' L' D':=by
 have m8:=hI.m8
 have hw:∀ f∈P.ring,∃ L' D',wrF P.first f L D=({ f with dirty:=false,first:=0 },L',D',0)/\LogI D' L' R B/\Calm D'/\D'.n=D.n/\(L'=L\/L'=zKV1 L)/\f.last < L'.safe/\D'.latest (P.first+f.page)=f.b /\
   ∀ k,(k < L.first\/L.first+L.count<=k)->k≠P.first+f.page->D'.latest k=D.latest k:=fun f hf=>by
  have h:=hI.fr f hf
  have:=hI.f0
  have:=hI.fn
  have:=hI.ap
  exact zLz4 hL hC (by omega) (by omega) (by omega) h.2.2.1 h.2.2.2.2.2.1
 have hcore:∀ (f g:FrM),g.core=f.core->(wrF P.first g L D).2=(wrF P.first f L D).2:=fun f g h=>by
  obtain ⟨c1,c2,c3,c4,c5,c6⟩:=zkyC h
  unfold wrF
  dsimp only
  rw [c1,c2,c6]
  (repeat' split)<;>rfl
 obtain ⟨P1,h1,h2,h3,h4,h5,h6,h7⟩:=zW1H (2*P.most+1).toNat P L D (by omega) hI.h0 hI.h1
 rcases h7 with h7 | ⟨k,f,a1,a2,a3,h7⟩
 ·exfalso
  obtain ⟨f,hf,hh⟩:=hfree
  obtain ⟨j,hj⟩:=List.getElem?_of_mem hf
  rcases zYNj (n:=(2*P.most+1).toNat) (L:=L) (D:=D) hj hh hI.h0 (by omega) with h8 | ⟨i,g,h8,h9⟩
  ·rw [h7] at h8;exact h8 rfl
  ·obtain ⟨L',D',e,_⟩:=hw g (List.mem_of_getElem? h8)
   rw [e] at h9
   exact absurd (show (0:Int)=9 from h9) (by decide)
 ·obtain ⟨g,hg,hc⟩:=h4.get a1
  obtain ⟨c1,c2,c3,c4,c5,c6⟩:=zkyC hc
  have hI1:=hI.same h1 h2 h3 h4 h5 h6
  have hK1:=Keeps.same hI h1 h2 h3 h4
  rcases h7 with ⟨b1,b2⟩ | ⟨b1,b2,b3⟩ | ⟨b1,b2,b3⟩
  ·exact ⟨P1,L,D,k,f,b2,a1,a2,b1,hI1,hL,hC,hK1⟩
  ·exfalso
   obtain ⟨L',D',e,_⟩:=hw g (List.mem_of_getElem? hg)
   have:=hcore g f hc
   rw [this,e] at b2
   exact b2 rfl
  ·have hfr:=hI1.fr f (List.mem_of_getElem? a1)
   have q1:=hI1.f0
   have q2:=hI1.fn
   have q3:=hI1.ap
   obtain ⟨L',D',e,e1,e2,e3,e4,e5,e6,e7⟩:=zLz4 hL hC (pf:=P.first) (f:=f) (by rw [<- h1];omega) (by rw [<- h1];omega) (by rw [<- h1];omega) hfr.2.2.1 hfr.2.2.2.2.2.1
   rw [<- h1] at e6 e7
   obtain ⟨w1,w2⟩:=wrote hI1 a1 b1 e3 e4 hL.sf e5 e6 e7
   rw [e] at b3
   refine ⟨_,L',D',k,{ f with dirty:=false,first:=0 },b3,?_,a2,rfl,w1,e1,e2,hK1.trans hI w2⟩
   show (P1.ring.set k _)[k]?=_
   rw [List.getElem?_set_self (List.getElem?_eq_some_iff.1 a1).1]
theorem zBNW {l:List Int} (h:l.Nodup) {k:Nat} {a:Int} (ha:a ∉ l):(l.set k a).Nodup:=by
 rw [List.nodup_iff_pairwise_ne,List.pairwise_iff_getElem] at *
 intro i j hi hj hij
 rw [List.length_set] at hi hj
 rw [List.getElem_set,List.getElem_set]
 split
 ·split
  ·omega
  ·intro e;exact ha (e▸List.getElem_mem _)
 ·split
  ·intro e;exact ha (e▸List.getElem_mem _)
  ·exact h i j hi hj hij
section
variable {P:PoolM} {L:LogM} {D:DevM} {R:List RecM} {B:Int->UInt8}
theorem Keeps.of_mem {P':PoolM} (h:PoolI P L D) (h1:P'.first=P.first) (h2:P'.blocks=P.blocks) (h3:P'.most=P.most) (hnd:(P'.ring.map (·.page)).Nodup)
  (ho:∀ f∈P.ring,f∈P'.ring\/(f.held=0/\f.dirty=false/\∀ g∈P'.ring,g.page≠f.page)) (hn:∀ g∈P'.ring,g∈P.ring\/(g.held=0/\g.dirty=false/\g.b=D.latest (P.first+g.page)/\∀ f∈P.ring,f.page≠g.page)):Keeps P L D P' L D:=by
 refine ⟨⟨h1,h2,h3,rfl,rfl,rfl,rfl,rfl,Int.le_refl _,rfl,rfl⟩,fun _ _ _=>rfl,fun p _ _=>?_,fun p=>?_,fun _ _ _=>.inl rfl,fun f hf hd=>.inl ?_,fun g hg hd=>?_⟩
 ·by_cases c:∃ x∈P.ring,x.page=p
  ·obtain ⟨x,hx,rfl⟩:=c
   rw [zvSy h.nd hx]
   rcases ho x hx with h4 | ⟨_,h5,h6⟩
   ·exact zvSy hnd h4
   ·rw [zzzb h6,h1]
    exact ((h.fr x hx).2.2.2.2.2.2.1 h5).symm
  ·have c1:∀ x∈P.ring,x.page≠p:=fun x hx e=>c ⟨x,hx,e⟩
   rw [zzzb c1]
   by_cases c2:∃ g∈P'.ring,g.page=p
   ·obtain ⟨g,hg,rfl⟩:=c2
    rw [zvSy hnd hg]
    rcases hn g hg with h4 | ⟨_,_,h6,_⟩
    ·exact absurd rfl (c1 g h4)
    ·exact h6
   ·rw [zzzb (fun g hg e=>c2 ⟨g,hg,e⟩),h1]
 ·by_cases c:∃ x∈P.ring,x.page=p
  ·obtain ⟨x,hx,rfl⟩:=c
   rw [zN5k h.nd hx]
   rcases ho x hx with h4 | ⟨h5,_,h6⟩
   ·exact zN5k hnd h4
   ·rw [zjuv h6,h5]
  ·have c1:∀ x∈P.ring,x.page≠p:=fun x hx e=>c ⟨x,hx,e⟩
   rw [zjuv c1]
   by_cases c2:∃ g∈P'.ring,g.page=p
   ·obtain ⟨g,hg,rfl⟩:=c2
    rw [zN5k hnd hg]
    rcases hn g hg with h4 | ⟨h5,_⟩
    ·exact absurd rfl (c1 g h4)
    ·exact h5
   ·rw [zjuv (fun g hg e=>c2 ⟨g,hg,e⟩)]
 ·rcases ho f hf with h4 | ⟨_,h5,_⟩
  ·exact ⟨f,h4,hd,rfl,rfl,rfl,rfl⟩
  ·rw [hd] at h5;cases h5
 ·rcases hn g hg with h4 | ⟨_,h5,_⟩
  ·exact ⟨g,h4,hd,rfl,rfl,rfl,rfl⟩
  ·rw [hd] at h5;cases h5
theorem zA0y (h:PoolI P L D) {i j:Nat} {f g:FrM} (hi:P.ring[i]?=some f) (hj:P.ring[j]?=some g) (e:f.page=g.page):i=j:=by
 have q1:=zMbS h.nd hi
 have q2:=zMbS h.nd hj
 rw [e,q2] at q1
 exact q1.symm
theorem zGzm (h:PoolI P L D) (hlen:∀ k,(D.latest k).length=512) (hfin:1<=L.fin) {k:Nat} {f:FrM} (hk:P.ring[k]?=some f) (hh:f.held<=0) (hd:f.dirty=false) {page:Int} (p0:0<=page) (p1:page < P.blocks) (hno:∀ f∈P.ring,f.page≠page) :
  PoolI { P with ring:=P.ring.set k (newF page (D.latest (P.first+page))) } L D/\Keeps P L D { P with ring:=P.ring.set k (newF page (D.latest (P.first+page))) } L D:=by
 have hfm:=List.mem_of_getElem? hk
 have hfr:=h.fr f hfm
 have hnd:((P.ring.set k (newF page (D.latest (P.first+page)))).map (·.page)).Nodup:=by
  rw [List.map_set]
  refine zBNW h.nd (fun hm=>?_)
  obtain ⟨g,hg,e⟩:=List.mem_map.1 hm
  exact hno g hg e
 refine ⟨⟨h.f0,h.b1,h.fn,h.dn,h.ap,h.m8,h.m1,by show ((P.ring.set k _).length:Int)<=P.most;rw [List.length_set];exact h.len,h.h0,by show P.hand<=((P.ring.set k _).length:Int);rw [List.length_set];exact h.h1,hnd,fun x hx=>?_⟩,Keeps.of_mem h rfl rfl rfl hnd (fun g hg=>?_) (fun g hg=>?_)⟩
 ·rcases zunS hx with rfl | ⟨i,hik,hi⟩
  ·exact ⟨p0,p1,hlen _,Int.le_refl _,Int.le_refl _,by show (0:Int) < L.fin;omega,fun _=>rfl,fun e=>by cases e⟩
  ·exact h.fr x (List.mem_of_getElem? hi)
 ·obtain ⟨i,hi⟩:=List.getElem?_of_mem hg
  by_cases hik:i=k
  ·subst hik
   rw [hk] at hi
   obtain rfl:=Option.some.inj hi
   refine .inr ⟨by have:=hfr.2.2.2.1;omega,hd,fun x hx=>?_⟩
   rcases zunS hx with rfl | ⟨j,hjk,hj⟩
   ·exact fun e=>hno f hfm e.symm
   ·exact fun e=>hjk (zA0y h hj hk e)
  ·exact .inl (zpy7 hi hik)
 ·rcases zunS hg with rfl | ⟨i,hik,hi⟩
  ·exact .inr ⟨rfl,rfl,rfl,hno⟩
  ·exact .inl (List.mem_of_getElem? hi)
theorem z71B (h:PoolI P L D) (hlen:∀ k,(D.latest k).length=512) (hfin:1<=L.fin) (hmost:(P.ring.length:Int) < P.most) {page:Int} (p0:0<=page) (p1:page < P.blocks) (hno:∀ f∈P.ring,f.page≠page) :
  PoolI { P with ring:=P.ring ++ [newF page (D.latest (P.first+page))] } L D/\Keeps P L D { P with ring:=P.ring ++ [newF page (D.latest (P.first+page))] } L D:=by
 have hnd:((P.ring ++ [newF page (D.latest (P.first+page))]).map (·.page)).Nodup:=by
  rw [List.map_append,List.nodup_append]
  refine ⟨h.nd,by simp,fun a ha b hb e=>?_⟩
  obtain ⟨g,hg,e2⟩:=List.mem_map.1 ha
  simp at hb
  subst hb
  exact hno g hg (e2.trans e)
 refine ⟨⟨h.f0,h.b1,h.fn,h.dn,h.ap,h.m8,h.m1,by show ((P.ring ++ _).length:Int)<=P.most;rw [List.length_append];simp;omega,h.h0,by show P.hand<=((P.ring ++ _).length:Int);rw [List.length_append];have:=h.h1;simp;omega,hnd,fun x hx=>?_⟩,Keeps.of_mem h rfl rfl rfl hnd (fun g hg=>.inl (List.mem_append_left _ hg)) (fun g hg=>?_)⟩
 ·rcases List.mem_append.1 hx with hx | hx
  ·exact h.fr x hx
  ·rw [List.mem_singleton] at hx
   subst hx
   exact ⟨p0,p1,hlen _,Int.le_refl _,Int.le_refl _,by show (0:Int) < L.fin;omega,fun _=>rfl,fun e=>by cases e⟩
 ·rcases List.mem_append.1 hg with hg | hg
  ·exact .inl hg
  ·rw [List.mem_singleton] at hg
   subst hg
   exact .inr ⟨rfl,rfl,rfl,hno⟩
theorem zQlR (hI:PoolI P L D) (hL:LogI D L R B) (hC:Calm D) {page:Int} (p0:0<=page) (p1:page < P.blocks) :
  (∃ P' L' D' i f,ziLQ P L D page=(P',L',D',i,0)/\P'.ring[i]?=some f/\f.page=page/\f.b=P.cur D page/\f.held=P.heldOf page/\PoolI P' L' D'/\LogI D' L' R B/\Calm D'/\Keeps P L D P' L' D' /\
   ((∃ g∈P.ring,g.page=page)\/(P.ring.length:Int) < P.most\/∃ g∈P.ring,g.held<=0)) \/
  (∃ P',ziLQ P L D page=(P',L,D,0,9)/\PoolI P' L D/\Keeps P L D P' L D/\(∀ g∈P.ring,0 < g.held/\g.page≠page)/\(P.ring.length:Int)=P.most):=by
 have m8:=hI.m8
 have hfin:1<=L.fin:=by have:=hL.o1;have:=hL.so;have:=hL.sf;omega
 unfold ziLQ
 rw [if_neg (by omega)]
 dsimp only
 cases e:P.ring[P.at page]? with
 | some f=>
  dsimp only
  have hp:=zyH5 e
  have hs:SameR P.ring (P.ring.set (P.at page) { f with used:=true }):=SameR.set e rfl
  refine .inl ⟨_,L,D,P.at page,{ f with used:=true },rfl,?_,hp,?_,?_,hI.same rfl rfl rfl hs hI.h0 (by rw [hs.len];exact hI.h1),hL,hC,Keeps.same hI rfl rfl rfl hs,.inl ⟨f,List.mem_of_getElem? e,hp⟩⟩
  ·show (P.ring.set _ _)[_]?=_
   rw [List.getElem?_set_self (List.getElem?_eq_some_iff.1 e).1]
  ·show f.b=P.cur D page
   unfold PoolM.cur;rw [e]
  ·show f.held=P.heldOf page
   unfold PoolM.heldOf;rw [e]
 | none=>
  dsimp only
  have hno:=zfPR e
  by_cases c1:(P.ring.length:Int) < P.most
  ·rw [if_pos c1]
   obtain ⟨a1,a2⟩:=z71B hI hL.len hfin c1 p0 p1 hno
   refine .inl ⟨_,L,D,P.ring.length,newF page (D.latest (P.first+page)),rfl,?_,rfl,?_,?_,a1,hL,hC,a2,.inr (.inl c1)⟩
   ·show (P.ring ++ _)[P.ring.length]?=_
    simp
   ·show D.latest (P.first+page)=P.cur D page
    rw [zzzb hno]
   ·show (0:Int)=P.heldOf page
    rw [zjuv hno]
  ·rw [if_neg c1]
   have hfull:(P.ring.length:Int)=P.most:=by have:=hI.len;omega
   by_cases c2:∃ f∈P.ring,f.held<=0
   ·obtain ⟨P1,L1,D1,k,f,e1,e2,e3,e4,i1,i2,i3,i4⟩:=zsT4 hI hL hC hfull c2
    rw [e1]
    dsimp only
    rw [if_neg (by decide)]
    have hl:=i4.like
    have hno1:∀ g∈P1.ring,g.page≠page:=fun g hg ep=>by
     have h9:=zW1H (2*P.most+1).toNat P L D (by omega) hI.h0 hI.h1
     obtain ⟨P2,_,_,_,hs,_,_,h8⟩:=h9
     rw [e1] at h8
     have hpg:P1.ring.map (·.page)=P.ring.map (·.page):=by
      rcases h8 with h8 | ⟨k2,f2,b1,_,_,h8⟩
      ·cases h8
      ·rcases h8 with ⟨_,h8⟩ | ⟨_,h7,h8⟩ | ⟨_,_,h8⟩
       ·cases h8;exact hs.pages
       ·exfalso
        have:(0:Int)=(wrF P.first f2 L D).2.2.2:=congrArg (fun x=>x.2.2.2.2) h8
        exact h7 this.symm
       ·have e5:P1={ P2 with ring:=P2.ring.set k2 (wrF P.first f2 L D).1 }:=congrArg (fun x=>x.1) h8
        rw [e5]
        show (P2.ring.set k2 _).map _=_
        rw [zltG b1 ?_,hs.pages]
        unfold wrF
        dsimp only
        (repeat' split)<;>rfl
     have hm:page∈P1.ring.map (·.page):=List.mem_map.2 ⟨g,hg,ep⟩
     rw [hpg] at hm
     obtain ⟨g2,hg2,e9⟩:=List.mem_map.1 hm
     exact hno g2 hg2 e9
    obtain ⟨a1,a2⟩:=zGzm i1 i2.len (by rw [hl.fin];exact hfin) e2 e3 e4 p0 (by rw [hl.pb];exact p1) hno1
    have e9:D1.latest (P1.first+page)=D1.latest (P.first+page):=by rw [hl.pf]
    rw [e9] at a1 a2
    refine .inl ⟨_,L1,D1,k,newF page (D1.latest (P.first+page)),rfl,?_,rfl,?_,?_,a1,i2,i3,i4.trans hI a2,.inr (.inr c2)⟩
    ·show (P1.ring.set k _)[k]?=_
     rw [List.getElem?_set_self (List.getElem?_eq_some_iff.1 e2).1]
    ·show D1.latest (P.first+page)=P.cur D page
     rw [<- i4.cur page p0 p1,zzzb hno1,hl.pf]
    ·show (0:Int)=P.heldOf page
     rw [zjuv hno]
   ·have hall:∀ f∈P.ring,0 < f.held:=fun f hf=>by
     rcases Int.lt_or_le 0 f.held with h | h
     ·exact h
     ·exact absurd ⟨f,hf,h⟩ c2
    have hb:=zvKC (2*P.most+1).toNat P L D (by omega) hI.h0 hall
    obtain ⟨P1,h1,h2,h3,h4,h5,h6,h7⟩:=zW1H (2*P.most+1).toNat P L D (by omega) hI.h0 hI.h1
    rw [if_pos (by rw [hb];decide)]
    rcases h7 with h7 | ⟨k,f,a1,a2,_⟩
    ·exact .inr ⟨P1,h7,hI.same h1 h2 h3 h4 h5 h6,Keeps.same hI h1 h2 h3 h4,fun g hg=>⟨hall g hg,hno g hg⟩,hfull⟩
    ·exfalso
     obtain ⟨g,hg,hc⟩:=h4.get a1
     have:=hall g (List.mem_of_getElem? hg)
     rw [(zkyC hc).2.2.1] at a2
     omega
theorem z8pm (hI:PoolI P L D) {i:Nat} {f g:FrM} (hf:P.ring[i]?=some f) (h1:g.page=f.page) (h2:g.held=f.held) (h3:g.b.length=512) (h4:0<=g.last) (h5:g.last < L.fin) (h6:g.dirty=true) (h7:1<=g.first) :
  PoolI { P with ring:=P.ring.set i g } L D/\(∀ p,({ P with ring:=P.ring.set i g }:PoolM).cur D p=if p=f.page then g.b else P.cur D p)/\∀ p,({ P with ring:=P.ring.set i g }:PoolM).heldOf p=P.heldOf p:=by
 have hfm:=List.mem_of_getElem? hf
 have hfr:=hI.fr f hfm
 have hnd:((P.ring.set i g).map (·.page)).Nodup:=by rw [zltG hf h1];exact hI.nd
 refine ⟨⟨hI.f0,hI.b1,hI.fn,hI.dn,hI.ap,hI.m8,hI.m1,by show ((P.ring.set i _).length:Int)<=P.most;rw [List.length_set];exact hI.len,hI.h0,by show P.hand<=((P.ring.set i _).length:Int);rw [List.length_set];exact hI.h1,hnd,fun x hx=>?_⟩,fun p=>?_,fun p=>?_⟩
 ·rcases zunS hx with rfl | ⟨j,hji,hj⟩
  ·exact ⟨by rw [h1];exact hfr.1,by rw [h1];exact hfr.2.1,h3,by rw [h2];exact hfr.2.2.2.1,h4,h5,(fun e=>by rw [h6] at e;cases e),fun _=>h7⟩
  ·exact hI.fr x (List.mem_of_getElem? hj)
 ·by_cases e:p=f.page
  ·subst e
   rw [if_pos rfl,<- h1]
   exact zvSy (P:={ P with ring:=P.ring.set i g }) hnd (zb4S hf)
  ·rw [if_neg e]
   by_cases c:∃ x∈P.ring,x.page=p
   ·obtain ⟨x,hx,rfl⟩:=c
    obtain ⟨j,hj⟩:=List.getElem?_of_mem hx
    have hji:j≠i:=fun e2=>by subst e2;rw [hf] at hj;exact e (by rw [Option.some.inj hj])
    rw [zvSy hI.nd hx]
    exact zvSy (P:={ P with ring:=P.ring.set i g }) hnd (zpy7 hj hji)
   ·have c1:∀ x∈P.ring,x.page≠p:=fun x hx e=>c ⟨x,hx,e⟩
    have c2:∀ x∈P.ring.set i g,x.page≠p:=fun x hx=>by
     rcases zunS hx with rfl | ⟨j,_,hj⟩
     ·rw [h1];exact fun e2=>e e2.symm
     ·exact c1 x (List.mem_of_getElem? hj)
    rw [zzzb c1]
    exact zzzb (P:={ P with ring:=P.ring.set i g }) c2
 ·by_cases c:∃ x∈P.ring,x.page=p
  ·obtain ⟨x,hx,rfl⟩:=c
   obtain ⟨j,hj⟩:=List.getElem?_of_mem hx
   rw [zN5k hI.nd hx]
   by_cases hji:j=i
   ·subst hji
    rw [hf] at hj
    obtain rfl:=Option.some.inj hj
    rw [<- h1,<- h2]
    exact zN5k (P:={ P with ring:=P.ring.set j g }) hnd (zb4S hf)
   ·exact zN5k (P:={ P with ring:=P.ring.set i g }) hnd (zpy7 hj hji)
  ·have c1:∀ x∈P.ring,x.page≠p:=fun x hx e=>c ⟨x,hx,e⟩
   have c2:∀ x∈P.ring.set i g,x.page≠p:=fun x hx=>by
    rcases zunS hx with rfl | ⟨j,_,hj⟩
    ·rw [h1];exact fun e2=>c1 f hfm e2
    ·exact c1 x (List.mem_of_getElem? hj)
   rw [zjuv c1]
   exact zjuv (P:={ P with ring:=P.ring.set i g }) c2
theorem zDhX:∀ (is:List Nat) {P:PoolM} {L:LogM} {D:DevM},PoolI P L D->LogI D L R B->Calm D->is.Nodup->(∀ i∈is,∃ f,P.ring[i]?=some f/\f.dirty=true) ->
  ∃ P' L' D',zfTq is P L D=(P',L',D',0)/\PoolI P' L' D'/\LogI D' L' R B/\Calm D'/\Keeps P L D P' L' D'/\P'.ring.length=P.ring.length/\(∀ j,j ∉ is->P'.ring[j]?=P.ring[j]?)/\∀ j∈is,∃ f,P'.ring[j]?=some f/\f.dirty=false
 | [],P,L,D,hI,hL,hC,_,_=>⟨P,L,D,rfl,hI,hL,hC,Keeps.refl _ _ _,rfl,fun _ _=>rfl,fun j hj=>by cases hj⟩
 | i :: is,P,L,D,hI,hL,hC,hn,hd=>by
  obtain ⟨f,hf,hfd⟩:=hd i (List.mem_cons_self ..)
  obtain ⟨hni,hn2⟩:=List.nodup_cons.1 hn
  have hfr:=hI.fr f (List.mem_of_getElem? hf)
  have q1:=hI.f0
  have q2:=hI.fn
  have q3:=hI.ap
  obtain ⟨L',D',e,e1,e2,e3,e4,e5,e6,e7⟩:=zLz4 hL hC (pf:=P.first) (f:=f) (by omega) (by omega) (by omega) hfr.2.2.1 hfr.2.2.2.2.2.1
  obtain ⟨w1,w2⟩:=wrote hI hf hfd e3 e4 hL.sf e5 e6 e7
  unfold zfTq
  rw [hf]
  dsimp only
  rw [e]
  dsimp only
  rw [if_neg (by decide)]
  have hil:=(List.getElem?_eq_some_iff.1 hf).1
  obtain ⟨P2,L2,D2,g1,g2,g3,g4,g5,g6,g7,g8⟩:=zDhX is w1 e1 e2 hn2 (fun j hj=>by
   obtain ⟨x,hx,hxd⟩:=hd j (List.mem_cons_of_mem _ hj)
   refine ⟨x,?_,hxd⟩
   show (P.ring.set i _)[j]?=_
   rw [List.getElem?_set_ne (fun e=>hni (by rw [e];exact hj))]
   exact hx)
  refine ⟨P2,L2,D2,g1,g2,g3,g4,w2.trans hI g5,by rw [g6];exact List.length_set ..,fun j hj=>?_,fun j hj=>?_⟩
  ·rw [g7 j (fun h=>hj (List.mem_cons_of_mem _ h))]
   show (P.ring.set i _)[j]?=_
   rw [List.getElem?_set_ne (fun e=>hj (by rw [<- e];exact List.mem_cons_self ..))]
  ·rcases List.mem_cons.1 hj with rfl | hj
   ·refine ⟨{ f with dirty:=false,first:=0 },?_,rfl⟩
    rw [g7 j hni]
    show (P.ring.set j _)[j]?=_
    rw [List.getElem?_set_self hil]
   ·exact g8 j hj
theorem zLnP (P:PoolM) (i:Nat):i∈P.rows↔∃ f,P.ring[i]?=some f/\f.dirty=true:=by
 unfold PoolM.rows
 rw [List.mem_mergeSort,List.mem_filter,List.mem_range]
 unfold PoolM.dirtyAt
 constructor
 ·rintro ⟨h1,h2⟩
  refine ⟨P.ring[i],List.getElem?_eq_getElem h1,?_⟩
  rw [List.getD_eq_getElem?_getD,List.getElem?_eq_getElem h1] at h2
  exact h2
 ·rintro ⟨f,h1,h2⟩
  refine ⟨(List.getElem?_eq_some_iff.1 h1).1,?_⟩
  rw [List.getD_eq_getElem?_getD,h1]
  exact h2
theorem zCO3 (P:PoolM):P.rows.Nodup:=by
 unfold PoolM.rows
 exact (List.mergeSort_perm _ _).nodup_iff.2 (List.Pairwise.filter _ List.nodup_range)
theorem z1ZU (hI:PoolI P L D) (hL:LogI D L R B) (hC:Calm D) :
  ∃ P' L' D',flushM P L D=(P',L',D',0)/\PoolI P' L' D'/\LogI D' L' R B/\Calm D'/\Keeps P L D P' L' D'/\(∀ f∈P'.ring,f.dirty=false)/\(∀ k,D'.opn k=none)/\∀ p,0<=p->p < P.blocks->D'.latest (P.first+p)=P.cur D p:=by
 obtain ⟨P',L',D',e,i1,i2,i3,i4,i5,i6,i7⟩:=zDhX P.rows hI hL hC (zCO3 P) (fun i hi=>(zLnP P i).1 hi)
 have hcl:∀ f∈P'.ring,f.dirty=false:=fun f hf=>by
  obtain ⟨j,hj⟩:=List.getElem?_of_mem hf
  by_cases c:j∈P.rows
  ·obtain ⟨g,hg,hd⟩:=i7 j c
   rw [hg] at hj
   rw [<- Option.some.inj hj];exact hd
  ·have:=i6 j c
   rw [hj] at this
   by_cases hd:f.dirty=true
   ·exact absurd ((zLnP P j).2 ⟨f,this.symm,hd⟩) c
   ·simpa using hd
 have hlat:∀ k,D'.sync.latest k=D'.latest k:=fun k=>zXFu D' k
 have hl:=i4.like
 have hcur:∀ p,P'.cur D'.sync p=P'.cur D' p:=fun p=>by unfold PoolM.cur;split<;>simp [hlat]
 refine ⟨P',L',D'.sync,?_,⟨i1.f0,i1.b1,i1.fn,i1.dn,i1.ap,i1.m8,i1.m1,i1.len,i1.h0,i1.h1,i1.nd,fun f hf=>?_⟩,i2.dev rfl i3.d (fun k=>by rw [hlat];exact i2.len k) (fun k=>by rw [zjPi];exact i2.len k) (fun k _ _=>⟨hlat k,rfl⟩),⟨i3.a,i3.d,i3.n⟩,
  ⟨⟨hl.pf,hl.pb,hl.pm,hl.lf,hl.lc,hl.lt,hl.lo,hl.fin,hl.safe,hl.n,hl.lsns⟩,fun k h1 h2=>by rw [hlat];exact i4.out k h1 h2,fun p h1 h2=>by rw [hcur];exact i4.cur p h1 h2,i4.held,fun p h1 h2=>by rw [hlat];exact i4.dev p h1 h2,fun f hf hd=>by rw [hlat];exact i4.dirty f hf hd,i4.new⟩,hcl,fun _=>rfl,fun p h1 h2=>?_⟩
 ·unfold flushM
  rw [e]
  dsimp only
  rw [if_neg (by decide),i3.sync]
 ·have:=i1.fr f hf
  rw [hlat]
  exact this
 ·rw [hlat,<- i4.cur p h1 h2]
  unfold PoolM.cur
  cases e2:P'.ring[P'.at p]? with
  | none=>rw [hl.pf]
  | some f=>
   have hfm:=List.mem_of_getElem? e2
   have h3:=(i1.fr f hfm).2.2.2.2.2.2.1 (hcl f hfm)
   dsimp only
   rw [h3,zyH5 e2,hl.pf]
end
end Go.Proofs.YtfgagakepmigbaaGreat
