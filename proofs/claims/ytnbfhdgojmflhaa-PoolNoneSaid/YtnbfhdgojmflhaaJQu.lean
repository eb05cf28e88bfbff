/-
  No statement is proved here.
-/
import Derived.Test.YtnbfhdgojmflhaaJQt
namespace Go.Proofs.Ytnbfhdgojmflhaa
open Go.RowKit
def FrM.core (f:FrM):Int×Bytes×Int×Bool×Int×Int:=(f.page,f.b,f.held,f.dirty,f.first,f.last)
def SameR (l l':List FrM):Prop:=l'.map FrM.core=l.map FrM.core
theorem SameR.len {l l':List FrM} (h:SameR l l'):l'.length=l.length:=by
 have:=congrArg List.length h
 simpa using this
theorem SameR.get {l l':List FrM} (h:SameR l l') {i:Nat} {f':FrM} (hf:l'[i]?=some f'):∃ f,l[i]?=some f/\f'.core=f.core:=by
 have h1:(l'.map FrM.core)[i]?=(l.map FrM.core)[i]?:=by rw [h]
 rw [List.getElem?_map,List.getElem?_map,hf] at h1
 cases e:l[i]? with
 | none=>rw [e] at h1;cases h1
 | some f=>rw [e] at h1;exact ⟨f,rfl,Option.some.inj h1⟩
theorem SameR.symm {l l':List FrM} (h:SameR l l'):SameR l' l:=Eq.symm h
theorem SameR.trans {l l1 l2:List FrM} (h:SameR l l1) (k:SameR l1 l2):SameR l l2:=Eq.trans k h
theorem SameR.set {l:List FrM} {k:Nat} {f f':FrM} (hf:l[k]?=some f) (hc:f'.core=f.core):SameR l (l.set k f'):=by
 unfold SameR
 apply List.ext_getElem?
 intro i
 rw [List.getElem?_map,List.getElem?_map,List.getElem?_set]
 by_cases h:k=i
 ·subst h
  rw [if_pos rfl,hf]
  have:=(List.getElem?_eq_some_iff.1 hf).1
  simp [this,hc]
 ·rw [if_neg h]
theorem zkyC {f g:FrM} (h:f.core=g.core):f.page=g.page/\f.b=g.b/\f.held=g.held/\f.dirty=g.dirty/\f.first=g.first/\f.last=g.last:=by
 unfold FrM.core at h
 simp only [Prod.mk.injEq] at h
 obtain ⟨h1,h2,h3,h4,h5,h6⟩:=h
 exact ⟨h1,h2,h3,h4,h5,h6⟩
theorem SameR.pages {l l':List FrM} (h:SameR l l'):l'.map (·.page)=l.map (·.page):=by
 have:=congrArg (List.map Prod.fst) h
 rw [List.map_map,List.map_map] at this
 exact this
def EvS (P:PoolM) (L:LogM) (D:DevM) (x:PoolM×LogM×DevM×Nat×Int):Prop:=∃ P1:PoolM,P1.first=P.first/\P1.blocks=P.blocks/\P1.most=P.most/\SameR P.ring P1.ring/\0<=P1.hand/\P1.hand<=P1.ring.length /\
 (x=(P1,L,D,0,9)\/∃ k f,P1.ring[k]?=some f/\f.held<=0/\f.used=false /\
  ((f.dirty=false/\x=(P1,L,D,k,0)) \/
  (f.dirty=true/\(wrF P.first f L D).2.2.2≠0/\x=(P1,(wrF P.first f L D).2.1,(wrF P.first f L D).2.2.1,0,(wrF P.first f L D).2.2.2)) \/
  (f.dirty=true/\(wrF P.first f L D).2.2.2=0/\x=({ P1 with ring:=P1.ring.set k (wrF P.first f L D).1 },(wrF P.first f L D).2.1,(wrF P.first f L D).2.2.1,k,0))))
theorem EvS.up {P P0:PoolM} {L:LogM} {D:DevM} {x:PoolM×LogM×DevM×Nat×Int} (h:EvS P0 L D x) (h1:P0.first=P.first) (h2:P0.blocks=P.blocks) (h3:P0.most=P.most) (h4:SameR P.ring P0.ring):EvS P L D x:=by
 obtain ⟨P1,a1,a2,a3,a4,a5,a6,a7⟩:=h
 rw [h1] at a7
 exact ⟨P1,a1.trans h1,a2.trans h2,a3.trans h3,h4.trans a4,a5,a6,a7⟩
theorem zW1H:∀ (n:Nat) (P:PoolM) (L:LogM) (D:DevM),0 < P.ring.length->0<=P.hand->P.hand<=P.ring.length->EvS P L D (zNrE n P L D)
 | 0,P,L,D,_,h0,h1=>⟨P,rfl,rfl,rfl,rfl,h0,h1,.inl rfl⟩
 | n+1,P,L,D,hp,h0,h1=>by
  unfold zNrE
  dsimp only
  obtain ⟨k,hk⟩:∃ k,k=(P.hand % P.ring.length).toNat:=⟨_,rfl⟩
  rw [<- hk]
  cases e:P.ring[k]? with
  | none=>
   have h2:=Int.emod_nonneg P.hand (show (P.ring.length:Int)≠0 by omega)
   have h3:=Int.emod_lt_of_pos P.hand (show (0:Int) < P.ring.length by omega)
   have h4:=List.getElem?_eq_none_iff.1 e
   omega
  | some f=>
   dsimp only
   have hkl:=(List.getElem?_eq_some_iff.1 e).1
   by_cases c1:0 < f.held
   ·rw [if_pos c1]
    exact (zW1H n { P with hand:=(k:Int)+1 } L D hp (by show 0<=(k:Int)+1;omega) (by show (k:Int)+1<=P.ring.length;omega)).up rfl rfl rfl rfl
   ·rw [if_neg c1]
    by_cases c2:f.used=true
    ·rw [if_pos c2]
     refine (zW1H n _ L D (by show 0 < (P.ring.set k _).length;rw [List.length_set];exact hp) (by show 0<=(k:Int)+1;omega) (by show (k:Int)+1<=(P.ring.set k _).length;rw [List.length_set];omega)).up rfl rfl rfl ?_
     exact SameR.set e rfl
    ·rw [if_neg c2]
     refine ⟨{ P with hand:=(k:Int)+1 },rfl,rfl,rfl,rfl,by show 0<=(k:Int)+1;omega,by show (k:Int)+1<=P.ring.length;omega,.inr ⟨k,f,e,by omega,by simpa using c2,?_⟩⟩
     by_cases c3:f.dirty=true
     ·rw [if_pos c3]
      by_cases c4:(wrF P.first f L D).2.2.2≠0
      ·rw [if_pos c4];exact .inr (.inl ⟨c3,c4,rfl⟩)
      ·rw [if_neg c4];exact .inr (.inr ⟨c3,Decidable.not_not.1 c4,rfl⟩)
     ·rw [if_neg c3];exact .inl ⟨by simpa using c3,rfl⟩
theorem zvKC:∀ (n:Nat) (P:PoolM) (L:LogM) (D:DevM),0 < P.ring.length->0<=P.hand->(∀ f∈P.ring,0 < f.held)->(zNrE n P L D).2.2.2.2=9
 | 0,P,L,D,_,_,_=>rfl
 | n+1,P,L,D,hp,h0,hh=>by
  unfold zNrE
  dsimp only
  cases e:P.ring[(P.hand % P.ring.length).toNat]? with
  | none=>rfl
  | some f=>
   dsimp only
   rw [if_pos (hh f (List.mem_of_getElem? e))]
   exact zvKC n _ L D hp (by show 0<=(((P.hand % P.ring.length).toNat:Nat):Int)+1;omega) hh
theorem zsqO (pf:Int) (f:FrM) (u:Bool) (L:LogM) (D:DevM):(wrF pf { f with used:=u } L D).2=(wrF pf f L D).2:=by
 unfold wrF
 dsimp only
 (repeat' split)<;>rfl
theorem zbgi:∀ (n:Nat) (P:PoolM) (L:LogM) (D:DevM) (j d:Nat) (f:FrM),P.ring[j]?=some f->f.held<=0->f.used=false->0<=P.hand->d < n->(P.hand.toNat+d) % P.ring.length=j->(zNrE n P L D).2.2.2.2≠9\/∃ (i:Nat) (g:FrM),P.ring[i]?=some g/\(wrF P.first g L D).2.2.2=9
 | 0,P,L,D,j,d,f,_,_,_,_,hd,_=>by omega
 | n+1,P,L,D,j,d,f,hj,hh,hu,h0,hd,hm=>by
  have hjl:=(List.getElem?_eq_some_iff.1 hj).1
  have hp:0 < P.ring.length:=by omega
  unfold zNrE
  dsimp only
  obtain ⟨k,hk⟩:∃ k,k=(P.hand % P.ring.length).toNat:=⟨_,rfl⟩
  have hkn:k=P.hand.toNat % P.ring.length:=by
   obtain ⟨m0,hm0⟩:=Int.eq_ofNat_of_zero_le h0
   rw [hk,hm0,<- Int.natCast_emod,Int.toNat_natCast,Int.toNat_natCast]
  have hkl:k < P.ring.length:=by rw [hkn];exact Nat.mod_lt _ hp
  rw [<- hk]
  rw [List.getElem?_eq_getElem hkl]
  dsimp only
  have hwr:∀ g:FrM,P.ring[k]?=some g->(if g.dirty=true then (if (wrF P.first g L D).2.2.2≠0 then (({ P with hand:=(k:Int)+1 }:PoolM),(wrF P.first g L D).2.1,(wrF P.first g L D).2.2.1,0,(wrF P.first g L D).2.2.2) else ({ P with hand:=(k:Int)+1,ring:=P.ring.set k (wrF P.first g L D).1 },(wrF P.first g L D).2.1,(wrF P.first g L D).2.2.1,k,0)) else (({ P with hand:=(k:Int)+1 }:PoolM),L,D,k,0)).2.2.2.2≠9\/∃ (i:Nat) (g:FrM),P.ring[i]?=some g/\(wrF P.first g L D).2.2.2=9:=fun g hg=>by
   by_cases c9:(wrF P.first g L D).2.2.2=9
   ·exact .inr ⟨k,g,hg,c9⟩
   ·left
    split
    ·split
     ·exact c9
     ·exact (by decide:(0:Int)≠9)
    ·exact (by decide:(0:Int)≠9)
  by_cases hkj:k=j
  ·have e:P.ring[k]=f:=by
    have:=hj
    rw [<- hkj,List.getElem?_eq_getElem hkl] at this
    exact Option.some.inj this
   rw [e,if_neg (by omega),if_neg (by rw [hu];decide)]
   exact hwr f (by rw [hkj];exact hj)
  ·have hd0:d≠0:=by
    intro h
    rw [h,Nat.add_zero,<- hkn] at hm
    exact hkj hm
   have hmod:((k+1)+(d - 1)) % P.ring.length=j:=by
    rw [show (k+1)+(d - 1)=k+d by omega,hkn,Nat.mod_add_mod]
    exact hm
   by_cases c1:0 < P.ring[k].held
   ·rw [if_pos c1]
    rcases zbgi n { P with hand:=(k:Int)+1 } L D j (d - 1) f hj hh hu (by show 0<=(k:Int)+1;omega) (by omega) (by
     show (((k:Int)+1).toNat+(d - 1)) % P.ring.length=j
     rw [show ((k:Int)+1).toNat=k+1 by omega];exact hmod) with h | ⟨i,g,h1,h2⟩
    ·exact .inl h
    ·exact .inr ⟨i,g,h1,h2⟩
   ·rw [if_neg c1]
    by_cases c2:P.ring[k].used=true
    ·rw [if_pos c2]
     rcases zbgi n { P with hand:=(k:Int)+1,ring:=P.ring.set k { P.ring[k] with used:=false } } L D j (d - 1) f (by
      show (P.ring.set k _)[j]?=some f
      rw [List.getElem?_set_ne hkj];exact hj) hh hu (by show 0<=(k:Int)+1;omega) (by omega) (by
      show (((k:Int)+1).toNat+(d - 1)) % (P.ring.set k _).length=j
      rw [List.length_set,show ((k:Int)+1).toNat=k+1 by omega];exact hmod) with h | ⟨i,g,h1,h2⟩
     ·exact .inl h
     ·right
      have h1':(P.ring.set k { P.ring[k] with used:=false })[i]?=some g:=h1
      by_cases hki:k=i
      ·subst hki
       rw [List.getElem?_set_self hkl] at h1'
       obtain rfl:=Option.some.inj h1'
       refine ⟨k,P.ring[k],List.getElem?_eq_getElem hkl,?_⟩
       rw [<- h2,<- zsqO P.first P.ring[k] false L D]
      ·rw [List.getElem?_set_ne hki] at h1'
       exact ⟨i,g,h1',h2⟩
    ·rw [if_neg c2]
     exact hwr _ (List.getElem?_eq_getElem hkl)
theorem zjFa:∀ (n:Nat) (P:PoolM) (L:LogM) (D:DevM) (j d:Nat) (f:FrM),P.ring[j]?=some f->f.held<=0->0<=P.hand->d < P.ring.length->d+P.ring.length < n->(P.hand.toNat+d) % P.ring.length=j->(zNrE n P L D).2.2.2.2≠9\/∃ (i:Nat) (g:FrM),P.ring[i]?=some g/\(wrF P.first g L D).2.2.2=9
 | 0,P,L,D,j,d,f,_,_,_,_,hd,_=>by omega
 | n+1,P,L,D,j,d,f,hj,hh,h0,hdl,hd,hm=>by
  have hjl:=(List.getElem?_eq_some_iff.1 hj).1
  have hp:0 < P.ring.length:=by omega
  unfold zNrE
  dsimp only
  obtain ⟨k,hk⟩:∃ k,k=(P.hand % P.ring.length).toNat:=⟨_,rfl⟩
  have hkn:k=P.hand.toNat % P.ring.length:=by
   obtain ⟨m0,hm0⟩:=Int.eq_ofNat_of_zero_le h0
   rw [hk,hm0,<- Int.natCast_emod,Int.toNat_natCast,Int.toNat_natCast]
  have hkl:k < P.ring.length:=by rw [hkn];exact Nat.mod_lt _ hp
  rw [<- hk]
  rw [List.getElem?_eq_getElem hkl]
  dsimp only
  have hwr:∀ g:FrM,P.ring[k]?=some g->(if g.dirty=true then (if (wrF P.first g L D).2.2.2≠0 then (({ P with hand:=(k:Int)+1 }:PoolM),(wrF P.first g L D).2.1,(wrF P.first g L D).2.2.1,0,(wrF P.first g L D).2.2.2) else ({ P with hand:=(k:Int)+1,ring:=P.ring.set k (wrF P.first g L D).1 },(wrF P.first g L D).2.1,(wrF P.first g L D).2.2.1,k,0)) else (({ P with hand:=(k:Int)+1 }:PoolM),L,D,k,0)).2.2.2.2≠9\/∃ (i:Nat) (g:FrM),P.ring[i]?=some g/\(wrF P.first g L D).2.2.2=9:=fun g hg=>by
   by_cases c9:(wrF P.first g L D).2.2.2=9
   ·exact .inr ⟨k,g,hg,c9⟩
   ·left
    split
    ·split
     ·exact c9
     ·exact (by decide:(0:Int)≠9)
    ·exact (by decide:(0:Int)≠9)
  have hset:∀ {i:Nat} {g:FrM},(P.ring.set k { P.ring[k] with used:=false })[i]?=some g->(wrF P.first g L D).2.2.2=9->∃ (i:Nat) (g:FrM),P.ring[i]?=some g/\(wrF P.first g L D).2.2.2=9:=fun {i g} h1' h2=>by
   by_cases hki:k=i
   ·subst hki
    rw [List.getElem?_set_self hkl] at h1'
    obtain rfl:=Option.some.inj h1'
    refine ⟨k,P.ring[k],List.getElem?_eq_getElem hkl,?_⟩
    rw [<- h2,<- zsqO P.first P.ring[k] false L D]
   ·rw [List.getElem?_set_ne hki] at h1'
    exact ⟨i,g,h1',h2⟩
  by_cases hkj:k=j
  ·have e:P.ring[k]=f:=by
    have:=hj
    rw [<- hkj,List.getElem?_eq_getElem hkl] at this
    exact Option.some.inj this
   rw [if_neg (by rw [e];omega)]
   by_cases hu:P.ring[k].used=true
   ·rw [if_pos hu]
    rcases zbgi n { P with hand:=(k:Int)+1,ring:=P.ring.set k { P.ring[k] with used:=false } } L D j (P.ring.length - 1) { P.ring[k] with used:=false } (by
     show (P.ring.set k _)[j]?=_
     rw [<- hkj,List.getElem?_set_self hkl]) (by show P.ring[k].held<=0;rw [e];exact hh) rfl (by show 0<=(k:Int)+1;omega) (by omega) (by
     show (((k:Int)+1).toNat+(P.ring.length - 1)) % (P.ring.set k _).length=j
     rw [List.length_set,show ((k:Int)+1).toNat+(P.ring.length - 1)=k+P.ring.length by omega,Nat.add_mod_right,Nat.mod_eq_of_lt hkl]
     exact hkj) with h | ⟨i,g,h1,h2⟩
    ·exact .inl h
    ·exact .inr (hset h1 h2)
   ·rw [if_neg hu]
    exact hwr _ (List.getElem?_eq_getElem hkl)
  ·have hd0:d≠0:=by
    intro h
    rw [h,Nat.add_zero,<- hkn] at hm
    exact hkj hm
   have hmod:((k+1)+(d - 1)) % P.ring.length=j:=by
    rw [show (k+1)+(d - 1)=k+d by omega,hkn,Nat.mod_add_mod]
    exact hm
   by_cases c1:0 < P.ring[k].held
   ·rw [if_pos c1]
    rcases zjFa n { P with hand:=(k:Int)+1 } L D j (d - 1) f hj hh (by show 0<=(k:Int)+1;omega) (by show d - 1 < P.ring.length;omega) (by show d - 1+P.ring.length < n;omega) (by
     show (((k:Int)+1).toNat+(d - 1)) % P.ring.length=j
     rw [show ((k:Int)+1).toNat=k+1 by omega];exact hmod) with h | ⟨i,g,h1,h2⟩
    ·exact .inl h
    ·exact .inr ⟨i,g,h1,h2⟩
   ·rw [if_neg c1]
    by_cases c2:P.ring[k].used=true
    ·rw [if_pos c2]
     rcases zjFa n { P with hand:=(k:Int)+1,ring:=P.ring.set k { P.ring[k] with used:=false } } L D j (d - 1) f (by
      show (P.ring.set k _)[j]?=some f
      rw [List.getElem?_set_ne hkj];exact hj) hh (by show 0<=(k:Int)+1;omega) (by show d - 1 < (P.ring.set k _).length;rw [List.length_set];omega) (by show d - 1+(P.ring.set k _).length < n;rw [List.length_set];omega) (by
      show (((k:Int)+1).toNat+(d - 1)) % (P.ring.set k _).length=j
      rw [List.length_set,show ((k:Int)+1).toNat=k+1 by omega];exact hmod) with h | ⟨i,g,h1,h2⟩
     ·exact .inl h
     ·exact .inr (hset h1 h2)
    ·rw [if_neg c2]
     exact hwr _ (List.getElem?_eq_getElem hkl)
theorem zYNj {n:Nat} {P:PoolM} {L:LogM} {D:DevM} {j:Nat} {f:FrM} (hj:P.ring[j]?=some f) (hh:f.held<=0) (h0:0<=P.hand) (hn:2*P.ring.length < n+1):(zNrE n P L D).2.2.2.2≠9\/∃ (i:Nat) (g:FrM),P.ring[i]?=some g/\(wrF P.first g L D).2.2.2=9:=by
 have hjl:=(List.getElem?_eq_some_iff.1 hj).1
 have hp:0 < P.ring.length:=by omega
 obtain ⟨h,hh'⟩:∃ h,h=P.hand.toNat % P.ring.length:=⟨_,rfl⟩
 have hl:h < P.ring.length:=by rw [hh'];exact Nat.mod_lt _ hp
 by_cases c:h<=j
 ·refine zjFa n P L D j (j - h) f hj hh h0 (by omega) (by omega) ?_
  rw [Nat.add_mod,<- hh',<- Nat.add_mod_mod,Nat.mod_mod,Nat.add_mod_mod,show h+(j - h)=j by omega,Nat.mod_eq_of_lt hjl]
 ·refine zjFa n P L D j (j+P.ring.length - h) f hj hh h0 (by omega) (by omega) ?_
  rw [Nat.add_mod,<- hh',<- Nat.add_mod_mod,Nat.mod_mod,Nat.add_mod_mod,show h+(j+P.ring.length - h)=j+P.ring.length by omega,Nat.add_mod_right,Nat.mod_eq_of_lt hjl]
end Go.Proofs.Ytnbfhdgojmflhaa
