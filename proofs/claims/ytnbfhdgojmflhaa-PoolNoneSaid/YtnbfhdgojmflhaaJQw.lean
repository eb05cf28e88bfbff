/-
  No statement is proved here.
-/
import Derived.Test.YtnbfhdgojmflhaaJQv
namespace Go.Proofs.Ytnbfhdgojmflhaa
open Go.RowKit
theorem zBNW {l:List Int} (h:l.Nodup) {k:Nat} {a:Int} (ha:a ∉ l):(l.set k a).Nodup:=by
 rw [List.nodup_iff_pairwise_ne,List.pairwise_iff_getElem] at *
 intro i j hi hj hij
 rw [List.length_set] at hi hj
 rw [List.getElem_set,List.getElem_set]
 split
 ·split
  ·omega
  ·intro e;exact ha (e▸List.getElem_mem _)
 ·split
  ·intro e;exact ha (e▸List.getElem_mem _)
  ·exact h i j hi hj hij
section
variable {P:PoolM} {L:LogM} {D:DevM} {R:List RecM} {B:Int->UInt8}
theorem Keeps.of_mem {P':PoolM} (h:PoolI P L D) (h1:P'.first=P.first) (h2:P'.blocks=P.blocks) (h3:P'.most=P.most) (hnd:(P'.ring.map (·.page)).Nodup)
  (ho:∀ f∈P.ring,f∈P'.ring\/(f.held=0/\f.dirty=false/\∀ g∈P'.ring,g.page≠f.page)) (hn:∀ g∈P'.ring,g∈P.ring\/(g.held=0/\g.dirty=false/\g.b=D.latest (P.first+g.page)/\∀ f∈P.ring,f.page≠g.page)):Keeps P L D P' L D:=by
 refine ⟨⟨h1,h2,h3,rfl,rfl,rfl,rfl,rfl,Int.le_refl _,rfl,rfl⟩,fun _ _ _=>rfl,fun p _ _=>?_,fun p=>?_,fun _ _ _=>.inl rfl,fun f hf hd=>.inl ?_,fun g hg hd=>?_⟩
 ·by_cases c:∃ x∈P.ring,x.page=p
  ·obtain ⟨x,hx,rfl⟩:=c
   rw [zvSy h.nd hx]
   rcases ho x hx with h4 | ⟨_,h5,h6⟩
   ·exact zvSy hnd h4
   ·rw [zzzb h6,h1]
    exact ((h.fr x hx).2.2.2.2.2.2.1 h5).symm
  ·have c1:∀ x∈P.ring,x.page≠p:=fun x hx e=>c ⟨x,hx,e⟩
   rw [zzzb c1]
   by_cases c2:∃ g∈P'.ring,g.page=p
   ·obtain ⟨g,hg,rfl⟩:=c2
    rw [zvSy hnd hg]
    rcases hn g hg with h4 | ⟨_,_,h6,_⟩
    ·exact absurd rfl (c1 g h4)
    ·exact h6
   ·rw [zzzb (fun g hg e=>c2 ⟨g,hg,e⟩),h1]
 ·by_cases c:∃ x∈P.ring,x.page=p
  ·obtain ⟨x,hx,rfl⟩:=c
   rw [zN5k h.nd hx]
   rcases ho x hx with h4 | ⟨h5,_,h6⟩
   ·exact zN5k hnd h4
   ·rw [zjuv h6,h5]
  ·have c1:∀ x∈P.ring,x.page≠p:=fun x hx e=>c ⟨x,hx,e⟩
   rw [zjuv c1]
   by_cases c2:∃ g∈P'.ring,g.page=p
   ·obtain ⟨g,hg,rfl⟩:=c2
    rw [zN5k hnd hg]
    rcases hn g hg with h4 | ⟨h5,_⟩
    ·exact absurd rfl (c1 g h4)
    ·exact h5
   ·rw [zjuv (fun g hg e=>c2 ⟨g,hg,e⟩)]
 ·rcases ho f hf with h4 | ⟨_,h5,_⟩
  ·exact ⟨f,h4,hd,rfl,rfl,rfl,rfl⟩
  ·rw [hd] at h5;cases h5
 ·rcases hn g hg with h4 | ⟨_,h5,_⟩
  ·exact ⟨g,h4,hd,rfl,rfl,rfl,rfl⟩
  ·rw [hd] at h5;cases h5
theorem zA0y (h:PoolI P L D) {i j:Nat} {f g:FrM} (hi:P.ring[i]?=some f) (hj:P.ring[j]?=some g) (e:f.page=g.page):i=j:=by
 have q1:=zMbS h.nd hi
 have q2:=zMbS h.nd hj
 rw [e,q2] at q1
 exact q1.symm
theorem zGzm (h:PoolI P L D) (hlen:∀ k,(D.latest k).length=512) (hfin:1<=L.fin) {k:Nat} {f:FrM} (hk:P.ring[k]?=some f) (hh:f.held<=0) (hd:f.dirty=false) {page:Int} (p0:0<=page) (p1:page < P.blocks) (hno:∀ f∈P.ring,f.page≠page) :
  PoolI { P with ring:=P.ring.set k (newF page (D.latest (P.first+page))) } L D/\Keeps P L D { P with ring:=P.ring.set k (newF page (D.latest (P.first+page))) } L D:=by
 have hfm:=List.mem_of_getElem? hk
 have hfr:=h.fr f hfm
 have hnd:((P.ring.set k (newF page (D.latest (P.first+page)))).map (·.page)).Nodup:=by
  rw [List.map_set]
  refine zBNW h.nd (fun hm=>?_)
  obtain ⟨g,hg,e⟩:=List.mem_map.1 hm
  exact hno g hg e
 refine ⟨⟨h.f0,h.b1,h.fn,h.dn,h.ap,h.m8,h.m1,by show ((P.ring.set k _).length:Int)<=P.most;rw [List.length_set];exact h.len,h.h0,by show P.hand<=((P.ring.set k _).length:Int);rw [List.length_set];exact h.h1,hnd,fun x hx=>?_⟩,Keeps.of_mem h rfl rfl rfl hnd (fun g hg=>?_) (fun g hg=>?_)⟩
 ·rcases zunS hx with rfl | ⟨i,hik,hi⟩
  ·exact ⟨p0,p1,hlen _,Int.le_refl _,Int.le_refl _,by show (0:Int) < L.fin;omega,fun _=>rfl,fun e=>by cases e⟩
  ·exact h.fr x (List.mem_of_getElem? hi)
 ·obtain ⟨i,hi⟩:=List.getElem?_of_mem hg
  by_cases hik:i=k
  ·subst hik
   rw [hk] at hi
   obtain rfl:=Option.some.inj hi
   refine .inr ⟨by have:=hfr.2.2.2.1;omega,hd,fun x hx=>?_⟩
   rcases zunS hx with rfl | ⟨j,hjk,hj⟩
   ·exact fun e=>hno f hfm e.symm
   ·exact fun e=>hjk (zA0y h hj hk e)
  ·exact .inl (zpy7 hi hik)
 ·rcases zunS hg with rfl | ⟨i,hik,hi⟩
  ·exact .inr ⟨rfl,rfl,rfl,hno⟩
  ·exact .inl (List.mem_of_getElem? hi)
theorem z71B (h:PoolI P L D) (hlen:∀ k,(D.latest k).length=512) (hfin:1<=L.fin) (hmost:(P.ring.length:Int) < P.most) {page:Int} (p0:0<=page) (p1:page < P.blocks) (hno:∀ f∈P.ring,f.page≠page) :
  PoolI { P with ring:=P.ring ++ [newF page (D.latest (P.first+page))] } L D/\Keeps P L D { P with ring:=P.ring ++ [newF page (D.latest (P.first+page))] } L D:=by
 have hnd:((P.ring ++ [newF page (D.latest (P.first+page))]).map (·.page)).Nodup:=by
  rw [List.map_append,List.nodup_append]
  refine ⟨h.nd,by simp,fun a ha b hb e=>?_⟩
  obtain ⟨g,hg,e2⟩:=List.mem_map.1 ha
  simp at hb
  subst hb
  exact hno g hg (e2.trans e)
 refine ⟨⟨h.f0,h.b1,h.fn,h.dn,h.ap,h.m8,h.m1,by show ((P.ring ++ _).length:Int)<=P.most;rw [List.length_append];simp;omega,h.h0,by show P.hand<=((P.ring ++ _).length:Int);rw [List.length_append];have:=h.h1;simp;omega,hnd,fun x hx=>?_⟩,Keeps.of_mem h rfl rfl rfl hnd (fun g hg=>.inl (List.mem_append_left _ hg)) (fun g hg=>?_)⟩
 ·rcases List.mem_append.1 hx with hx | hx
  ·exact h.fr x hx
  ·rw [List.mem_singleton] at hx
   subst hx
   exact ⟨p0,p1,hlen _,Int.le_refl _,Int.le_refl _,by show (0:Int) < L.fin;omega,fun _=>rfl,fun e=>by cases e⟩
 ·rcases List.mem_append.1 hg with hg | hg
  ·exact .inl hg
  ·rw [List.mem_singleton] at hg
   subst hg
   exact .inr ⟨rfl,rfl,rfl,hno⟩
theorem zQlR (hI:PoolI P L D) (hL:LogI D L R B) (hC:Calm D) {page:Int} (p0:0<=page) (p1:page < P.blocks) :
  (∃ P' L' D' i f,ziLQ P L D page=(P',L',D',i,0)/\P'.ring[i]?=some f/\f.page=page/\f.b=P.cur D page/\f.held=P.heldOf page/\PoolI P' L' D'/\LogI D' L' R B/\Calm D'/\Keeps P L D P' L' D' /\
   ((∃ g∈P.ring,g.page=page)\/(P.ring.length:Int) < P.most\/∃ g∈P.ring,g.held<=0)) \/
  (∃ P',ziLQ P L D page=(P',L,D,0,9)/\PoolI P' L D/\Keeps P L D P' L D/\(∀ g∈P.ring,0 < g.held/\g.page≠page)/\(P.ring.length:Int)=P.most):=by
 have m8:=hI.m8
 have hfin:1<=L.fin:=by have:=hL.o1;have:=hL.so;have:=hL.sf;omega
 unfold ziLQ
 rw [if_neg (by omega)]
 dsimp only
 cases e:P.ring[P.at page]? with
 | some f=>
  dsimp only
  have hp:=zyH5 e
  have hs:SameR P.ring (P.ring.set (P.at page) { f with used:=true }):=SameR.set e rfl
  refine .inl ⟨_,L,D,P.at page,{ f with used:=true },rfl,?_,hp,?_,?_,hI.same rfl rfl rfl hs hI.h0 (by rw [hs.len];exact hI.h1),hL,hC,Keeps.same hI rfl rfl rfl hs,.inl ⟨f,List.mem_of_getElem? e,hp⟩⟩
  ·show (P.ring.set _ _)[_]?=_
   rw [List.getElem?_set_self (List.getElem?_eq_some_iff.1 e).1]
  ·show f.b=P.cur D page
   unfold PoolM.cur;rw [e]
  ·show f.held=P.heldOf page
   unfold PoolM.heldOf;rw [e]
 | none=>
  dsimp only
  have hno:=zfPR e
  by_cases c1:(P.ring.length:Int) < P.most
  ·rw [if_pos c1]
   obtain ⟨a1,a2⟩:=z71B hI hL.len hfin c1 p0 p1 hno
   refine .inl ⟨_,L,D,P.ring.length,newF page (D.latest (P.first+page)),rfl,?_,rfl,?_,?_,a1,hL,hC,a2,.inr (.inl c1)⟩
   ·show (P.ring ++ _)[P.ring.length]?=_
    simp
   ·show D.latest (P.first+page)=P.cur D page
    rw [zzzb hno]
   ·show (0:Int)=P.heldOf page
    rw [zjuv hno]
  ·rw [if_neg c1]
   have hfull:(P.ring.length:Int)=P.most:=by have:=hI.len;omega
   by_cases c2:∃ f∈P.ring,f.held<=0
   ·obtain ⟨P1,L1,D1,k,f,e1,e2,e3,e4,i1,i2,i3,i4⟩:=zsT4 hI hL hC hfull c2
    rw [e1]
    dsimp only
    rw [if_neg (by decide)]
    have hl:=i4.like
    have hno1:∀ g∈P1.ring,g.page≠page:=fun g hg ep=>by
     have h9:=zW1H (2*P.most+1).toNat P L D (by omega) hI.h0 hI.h1
     obtain ⟨P2,_,_,_,hs,_,_,h8⟩:=h9
     rw [e1] at h8
     have hpg:P1.ring.map (·.page)=P.ring.map (·.page):=by
      rcases h8 with h8 | ⟨k2,f2,b1,_,_,h8⟩
      ·cases h8
      ·rcases h8 with ⟨_,h8⟩ | ⟨_,h7,h8⟩ | ⟨_,_,h8⟩
       ·cases h8;exact hs.pages
       ·exfalso
        have:(0:Int)=(wrF P.first f2 L D).2.2.2:=congrArg (fun x=>x.2.2.2.2) h8
        exact h7 this.symm
       ·have e5:P1={ P2 with ring:=P2.ring.set k2 (wrF P.first f2 L D).1 }:=congrArg (fun x=>x.1) h8
        rw [e5]
        show (P2.ring.set k2 _).map _=_
        rw [zltG b1 ?_,hs.pages]
        unfold wrF
        dsimp only
        (repeat' split)<;>rfl
     have hm:page∈P1.ring.map (·.page):=List.mem_map.2 ⟨g,hg,ep⟩
     rw [hpg] at hm
     obtain ⟨g2,hg2,e9⟩:=List.mem_map.1 hm
     exact hno g2 hg2 e9
    obtain ⟨a1,a2⟩:=zGzm i1 i2.len (by rw [hl.fin];exact hfin) e2 e3 e4 p0 (by rw [hl.pb];exact p1) hno1
    have e9:D1.latest (P1.first+page)=D1.latest (P.first+page):=by rw [hl.pf]
    rw [e9] at a1 a2
    refine .inl ⟨_,L1,D1,k,newF page (D1.latest (P.first+page)),rfl,?_,rfl,?_,?_,a1,i2,i3,i4.trans hI a2,.inr (.inr c2)⟩
    ·show (P1.ring.set k _)[k]?=_
     rw [List.getElem?_set_self (List.getElem?_eq_some_iff.1 e2).1]
    ·show D1.latest (P.first+page)=P.cur D page
     rw [<- i4.cur page p0 p1,zzzb hno1,hl.pf]
    ·show (0:Int)=P.heldOf page
     rw [zjuv hno]
   ·have hall:∀ f∈P.ring,0 < f.held:=fun f hf=>by
     rcases Int.lt_or_le 0 f.held with h | h
     ·exact h
     ·exact absurd ⟨f,hf,h⟩ c2
    have hb:=zvKC (2*P.most+1).toNat P L D (by omega) hI.h0 hall
    obtain ⟨P1,h1,h2,h3,h4,h5,h6,h7⟩:=zW1H (2*P.most+1).toNat P L D (by omega) hI.h0 hI.h1
    rw [if_pos (by rw [hb];decide)]
    rcases h7 with h7 | ⟨k,f,a1,a2,_⟩
    ·exact .inr ⟨P1,h7,hI.same h1 h2 h3 h4 h5 h6,Keeps.same hI h1 h2 h3 h4,fun g hg=>⟨hall g hg,hno g hg⟩,hfull⟩
    ·exfalso
     obtain ⟨g,hg,hc⟩:=h4.get a1
     have:=hall g (List.mem_of_getElem? hg)
     rw [(zkyC hc).2.2.1] at a2
     omega
theorem z8pm (hI:PoolI P L D) {i:Nat} {f g:FrM} (hf:P.ring[i]?=some f) (h1:g.page=f.page) (h2:g.held=f.held) (h3:g.b.length=512) (h4:0<=g.last) (h5:g.last < L.fin) (h6:g.dirty=true) (h7:1<=g.first) :
  PoolI { P with ring:=P.ring.set i g } L D/\(∀ p,({ P with ring:=P.ring.set i g }:PoolM).cur D p=if p=f.page then g.b else P.cur D p)/\∀ p,({ P with ring:=P.ring.set i g }:PoolM).heldOf p=P.heldOf p:=by
 have hfm:=List.mem_of_getElem? hf
 have hfr:=hI.fr f hfm
 have hnd:((P.ring.set i g).map (·.page)).Nodup:=by rw [zltG hf h1];exact hI.nd
 refine ⟨⟨hI.f0,hI.b1,hI.fn,hI.dn,hI.ap,hI.m8,hI.m1,by show ((P.ring.set i _).length:Int)<=P.most;rw [List.length_set];exact hI.len,hI.h0,by show P.hand<=((P.ring.set i _).length:Int);rw [List.length_set];exact hI.h1,hnd,fun x hx=>?_⟩,fun p=>?_,fun p=>?_⟩
 ·rcases zunS hx with rfl | ⟨j,hji,hj⟩
  ·exact ⟨by rw [h1];exact hfr.1,by rw [h1];exact hfr.2.1,h3,by rw [h2];exact hfr.2.2.2.1,h4,h5,(fun e=>by rw [h6] at e;cases e),fun _=>h7⟩
  ·exact hI.fr x (List.mem_of_getElem? hj)
 ·by_cases e:p=f.page
  ·subst e
   rw [if_pos rfl,<- h1]
   exact zvSy (P:={ P with ring:=P.ring.set i g }) hnd (zb4S hf)
  ·rw [if_neg e]
   by_cases c:∃ x∈P.ring,x.page=p
   ·obtain ⟨x,hx,rfl⟩:=c
    obtain ⟨j,hj⟩:=List.getElem?_of_mem hx
    have hji:j≠i:=fun e2=>by subst e2;rw [hf] at hj;exact e (by rw [Option.some.inj hj])
    rw [zvSy hI.nd hx]
    exact zvSy (P:={ P with ring:=P.ring.set i g }) hnd (zpy7 hj hji)
   ·have c1:∀ x∈P.ring,x.page≠p:=fun x hx e=>c ⟨x,hx,e⟩
    have c2:∀ x∈P.ring.set i g,x.page≠p:=fun x hx=>by
     rcases zunS hx with rfl | ⟨j,_,hj⟩
     ·rw [h1];exact fun e2=>e e2.symm
     ·exact c1 x (List.mem_of_getElem? hj)
    rw [zzzb c1]
    exact zzzb (P:={ P with ring:=P.ring.set i g }) c2
 ·by_cases c:∃ x∈P.ring,x.page=p
  ·obtain ⟨x,hx,rfl⟩:=c
   obtain ⟨j,hj⟩:=List.getElem?_of_mem hx
   rw [zN5k hI.nd hx]
   by_cases hji:j=i
   ·subst hji
    rw [hf] at hj
    obtain rfl:=Option.some.inj hj
    rw [<- h1,<- h2]
    exact zN5k (P:={ P with ring:=P.ring.set j g }) hnd (zb4S hf)
   ·exact zN5k (P:={ P with ring:=P.ring.set i g }) hnd (zpy7 hj hji)
  ·have c1:∀ x∈P.ring,x.page≠p:=fun x hx e=>c ⟨x,hx,e⟩
   have c2:∀ x∈P.ring.set i g,x.page≠p:=fun x hx=>by
    rcases zunS hx with rfl | ⟨j,_,hj⟩
    ·rw [h1];exact fun e2=>c1 f hfm e2
    ·exact c1 x (List.mem_of_getElem? hj)
   rw [zjuv c1]
   exact zjuv (P:={ P with ring:=P.ring.set i g }) c2
theorem zDhX:∀ (is:List Nat) {P:PoolM} {L:LogM} {D:DevM},PoolI P L D->LogI D L R B->Calm D->is.Nodup->(∀ i∈is,∃ f,P.ring[i]?=some f/\f.dirty=true) ->
  ∃ P' L' D',zfTq is P L D=(P',L',D',0)/\PoolI P' L' D'/\LogI D' L' R B/\Calm D'/\Keeps P L D P' L' D'/\P'.ring.length=P.ring.length/\(∀ j,j ∉ is->P'.ring[j]?=P.ring[j]?)/\∀ j∈is,∃ f,P'.ring[j]?=some f/\f.dirty=false
 | [],P,L,D,hI,hL,hC,_,_=>⟨P,L,D,rfl,hI,hL,hC,Keeps.refl _ _ _,rfl,fun _ _=>rfl,fun j hj=>by cases hj⟩
 | i :: is,P,L,D,hI,hL,hC,hn,hd=>by
  obtain ⟨f,hf,hfd⟩:=hd i (List.mem_cons_self ..)
  obtain ⟨hni,hn2⟩:=List.nodup_cons.1 hn
  have hfr:=hI.fr f (List.mem_of_getElem? hf)
  have q1:=hI.f0
  have q2:=hI.fn
  have q3:=hI.ap
  obtain ⟨L',D',e,e1,e2,e3,e4,e5,e6,e7⟩:=zLz4 hL hC (pf:=P.first) (f:=f) (by omega) (by omega) (by omega) hfr.2.2.1 hfr.2.2.2.2.2.1
  obtain ⟨w1,w2⟩:=wrote hI hf hfd e3 e4 hL.sf e5 e6 e7
  unfold zfTq
  rw [hf]
  dsimp only
  rw [e]
  dsimp only
  rw [if_neg (by decide)]
  have hil:=(List.getElem?_eq_some_iff.1 hf).1
  obtain ⟨P2,L2,D2,g1,g2,g3,g4,g5,g6,g7,g8⟩:=zDhX is w1 e1 e2 hn2 (fun j hj=>by
   obtain ⟨x,hx,hxd⟩:=hd j (List.mem_cons_of_mem _ hj)
   refine ⟨x,?_,hxd⟩
   show (P.ring.set i _)[j]?=_
   rw [List.getElem?_set_ne (fun e=>hni (by rw [e];exact hj))]
   exact hx)
  refine ⟨P2,L2,D2,g1,g2,g3,g4,w2.trans hI g5,by rw [g6];exact List.length_set ..,fun j hj=>?_,fun j hj=>?_⟩
  ·rw [g7 j (fun h=>hj (List.mem_cons_of_mem _ h))]
   show (P.ring.set i _)[j]?=_
   rw [List.getElem?_set_ne (fun e=>hj (by rw [<- e];exact List.mem_cons_self ..))]
  ·rcases List.mem_cons.1 hj with rfl | hj
   ·refine ⟨{ f with dirty:=false,first:=0 },?_,rfl⟩
    rw [g7 j hni]
    show (P.ring.set j _)[j]?=_
    rw [List.getElem?_set_self hil]
   ·exact g8 j hj
theorem zLnP (P:PoolM) (i:Nat):i∈P.rows↔∃ f,P.ring[i]?=some f/\f.dirty=true:=by
 unfold PoolM.rows
 rw [List.mem_mergeSort,List.mem_filter,List.mem_range]
 unfold PoolM.dirtyAt
 constructor
 ·rintro ⟨h1,h2⟩
  refine ⟨P.ring[i],List.getElem?_eq_getElem h1,?_⟩
  rw [List.getD_eq_getElem?_getD,List.getElem?_eq_getElem h1] at h2
  exact h2
 ·rintro ⟨f,h1,h2⟩
  refine ⟨(List.getElem?_eq_some_iff.1 h1).1,?_⟩
  rw [List.getD_eq_getElem?_getD,h1]
  exact h2
theorem zCO3 (P:PoolM):P.rows.Nodup:=by
 unfold PoolM.rows
 exact (List.mergeSort_perm _ _).nodup_iff.2 (List.Pairwise.filter _ List.nodup_range)
theorem z1ZU (hI:PoolI P L D) (hL:LogI D L R B) (hC:Calm D) :
  ∃ P' L' D',zx6l P L D=(P',L',D',0)/\PoolI P' L' D'/\LogI D' L' R B/\Calm D'/\Keeps P L D P' L' D'/\(∀ f∈P'.ring,f.dirty=false)/\(∀ k,D'.opn k=none)/\∀ p,0<=p->p < P.blocks->D'.latest (P.first+p)=P.cur D p:=by
 obtain ⟨P',L',D',e,i1,i2,i3,i4,i5,i6,i7⟩:=zDhX P.rows hI hL hC (zCO3 P) (fun i hi=>(zLnP P i).1 hi)
 have hcl:∀ f∈P'.ring,f.dirty=false:=fun f hf=>by
  obtain ⟨j,hj⟩:=List.getElem?_of_mem hf
  by_cases c:j∈P.rows
  ·obtain ⟨g,hg,hd⟩:=i7 j c
   rw [hg] at hj
   rw [<- Option.some.inj hj];exact hd
  ·have:=i6 j c
   rw [hj] at this
   by_cases hd:f.dirty=true
   ·exact absurd ((zLnP P j).2 ⟨f,this.symm,hd⟩) c
   ·simpa using hd
 have hlat:∀ k,D'.sync.latest k=D'.latest k:=fun k=>zXFu D' k
 have hl:=i4.like
 have hcur:∀ p,P'.cur D'.sync p=P'.cur D' p:=fun p=>by unfold PoolM.cur;split<;>simp [hlat]
 refine ⟨P',L',D'.sync,?_,⟨i1.f0,i1.b1,i1.fn,i1.dn,i1.ap,i1.m8,i1.m1,i1.len,i1.h0,i1.h1,i1.nd,fun f hf=>?_⟩,i2.dev rfl i3.d (fun k=>by rw [hlat];exact i2.len k) (fun k=>by rw [zjPi];exact i2.len k) (fun k _ _=>⟨hlat k,rfl⟩),⟨i3.a,i3.d,i3.n⟩,
  ⟨⟨hl.pf,hl.pb,hl.pm,hl.lf,hl.lc,hl.lt,hl.lo,hl.fin,hl.safe,hl.n,hl.lsns⟩,fun k h1 h2=>by rw [hlat];exact i4.out k h1 h2,fun p h1 h2=>by rw [hcur];exact i4.cur p h1 h2,i4.held,fun p h1 h2=>by rw [hlat];exact i4.dev p h1 h2,fun f hf hd=>by rw [hlat];exact i4.dirty f hf hd,i4.new⟩,hcl,fun _=>rfl,fun p h1 h2=>?_⟩
 ·unfold zx6l
  rw [e]
  dsimp only
  rw [if_neg (by decide),i3.sync]
 ·have:=i1.fr f hf
  rw [hlat]
  exact this
 ·rw [hlat,<- i4.cur p h1 h2]
  unfold PoolM.cur
  cases e2:P'.ring[P'.at p]? with
  | none=>rw [hl.pf]
  | some f=>
   have hfm:=List.mem_of_getElem? e2
   have h3:=(i1.fr f hfm).2.2.2.2.2.2.1 (hcl f hfm)
   dsimp only
   rw [h3,zyH5 e2,hl.pf]
end
end Go.Proofs.Ytnbfhdgojmflhaa
