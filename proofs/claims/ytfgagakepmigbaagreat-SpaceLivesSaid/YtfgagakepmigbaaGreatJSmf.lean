/-
  No statement is proved here.
-/
import Derived.Test.YtfgagakepmigbaaGreatJSmd
namespace Go.Proofs.YtfgagakepmigbaaGreat
open Go.RowKit
theorem zZl8 {S:BkA} (hT:S.inT=true) {p:Int} (h0:0<=p) (h1:p < S.pages) {d:Bytes} (hd:d.length=512) {k:Nat} (hk:difN (S.now p) d 512<=k) (hs:97*(k:Int)<=S.slack) :
  S.put p d=(S.aft p d,0)/\S.slack - 97*(k:Int)<=(S.aft p d).slack:=by
 have hc:=zHIS (S.now p) d hd
 refine ⟨?_,by rw [zRyf];omega⟩
 rcases zoJ0 hT h0 h1 hd with h | h
 ·omega
 ·exact h.2
structure RelC (S:BkA) (Z:SpM) (c:Int):Prop where
 r:Rel S Z
 t:S.inT=true
 z:∀ p,ownS S.pages<=p->p < S.pages->S.now p=zeros 512
 s:c<=S.slack
section
variable {S:BkA} {Z:SpM} {c:Int}
theorem RelC.low (h:RelC S Z c) {c':Int} (hc:c'<=c):RelC S Z c':=⟨h.r,h.t,h.z,by have:=h.s;omega⟩
theorem RelC.own (h:RelC S Z c):2<=ownS S.pages/\ownS S.pages<=17/\ownS S.pages < S.pages:=zju9 h.r.r.p0 h.r.r.p1
theorem RelC.take (h:RelC S Z (c+97)) (hc:0<=c):∃ S',S.take=(S',Z.take.2)/\RelC S' Z.take.1 c:=by
 obtain ⟨⟨m1,m2⟩,m3,m4⟩:=h.r.take h.t
 obtain ⟨o1,o2,o3⟩:=h.own
 by_cases ctk:Z.tk=[]
 ·have e1:S.take=(S,0,4):=by
   unfold BkA.take
   rw [h.t,if_neg (show ¬ (true=false) by decide),if_pos (h.r.tk0.1 ctk)]
  have e2:Z.take=(Z,0,4):=by
   unfold SpM.take
   rw [h.r.inT,h.t,if_neg (show ¬ (true=false) by decide),if_pos ctk]
  exact ⟨S,by rw [e1,e2],by rw [e2];exact h.low (by omega)⟩
 ·cases hq:Z.freeQ with
  | none=>
   have e1:S.take=(S,0,5):=by
    unfold BkA.take
    rw [h.t,if_neg (show ¬ (true=false) by decide),if_neg (fun e=>ctk (h.r.tk0.2 e)),h.r.freeQ ctk,hq]
   have e2:Z.take=(Z,0,5):=by
    unfold SpM.take
    rw [h.r.inT,h.t,if_neg (show ¬ (true=false) by decide),if_neg ctk,hq]
   exact ⟨S,by rw [e1,e2],by rw [e2];exact h.low (by omega)⟩
  | some q=>
   obtain ⟨q1,q2,q3⟩:=zyv2 hq
   rw [h.r.pg] at q1
   rcases h.r.r.is with ⟨a,b⟩ | ⟨a,b,c',d,e⟩
   ·exact absurd a ctk
   ·have hqo:ownS S.pages<=q:=by
     refine Int.not_lt.1 fun hlt=>?_
     have:=e q hlt
     unfold SpM.at at q2
     rw [q2] at this;cases this
    have hm:=zkDc q1
    have hz:=h.z q hqo (by omega)
    have hml:(S.now (mapP q)).length=512:=h.r.r.len _ (by omega) (by omega)
    obtain ⟨p1,p2⟩:=zZl8 (S:=S) h.t (p:=(q:Int)) (by omega) (by omega) (zrlC 512) (k:=0) (by rw [hz,zxGh];exact Nat.le_refl 0) (by have:=h.s;omega)
    obtain ⟨S1,hS1⟩:∃ S1,S1=S.aft q (zeros 512):=⟨_,rfl⟩
    have n1:S1.now (mapP q)=S.now (mapP q):=by rw [hS1,zGYH,if_neg (by omega)]
    have t1:S1.inT=true:=by rw [hS1];exact h.t
    have g1:S1.pages=S.pages:=by rw [hS1];rfl
    rw [<- hS1] at p1 p2
    obtain ⟨p3,p4⟩:=zZl8 (S:=S1) t1 (p:=mapP q) (by omega) (by rw [g1];omega) (d:=setP (S.now (mapP q)) (q % 4096)) (by rw [zsVE];exact hml) (k:=1) (by
     rw [n1]
     refine Nat.le_trans (zrKb _ _ _ 512) ?_
     split<;>omega) (by have:=h.s;omega)
    have e1:S.take=(S1.aft (mapP q) (setP (S.now (mapP q)) (q % 4096)),(q:Int),0):=by
     unfold BkA.take BkA.takeAt thenA
     rw [h.t,if_neg (show ¬ (true=false) by decide),if_neg (fun e=>ctk (h.r.tk0.2 e)),h.r.freeQ ctk,hq]
     dsimp only
     rw [p1]
     dsimp only
     rw [if_neg (fun h=>h rfl),p3]
     rfl
    have e2:Z.take=({ Z with tk:=Z.tk.set q true },(q:Int),0):=by
     unfold SpM.take
     rw [h.r.inT,h.t,if_neg (show ¬ (true=false) by decide),if_neg ctk,hq]
    rw [e1,e2] at m2
    dsimp only at m2
    refine ⟨_,by rw [e1,e2],?_⟩
    rw [e2]
    refine ⟨?_,t1,fun p x0 x1=>?_,?_⟩
    ·rcases m2 with ⟨w,_⟩ | ⟨_,w⟩
     ·cases w
     ·exact w
    ·rw [zco4,g1] at x0 x1
     rw [zGYH,if_neg (by omega),hS1,zGYH]
     split
     ·rfl
     ·exact h.z p x0 x1
    ·have:=h.s;omega
theorem RelC.give (h:RelC S Z (c+97)) (hc:0<=c) (q:Int):∃ S',S.give q=(S',(Z.give q).2)/\RelC S' (Z.give q).1 c:=by
 obtain ⟨m1,m2⟩:=h.r.give h.t q
 obtain ⟨o1,o2,o3⟩:=h.own
 by_cases hc4:(Z.give q).2=0
 ·have hz:∃ d,d.length=512/\(mapP q.toNat) < ownS S.pages/\1<=mapP q.toNat/\S.give q=S.put (mapP q.toNat) d/\difN (S.now (mapP q.toNat)) d 512<=1:=by
   unfold SpM.give at hc4
   rw [h.r.inT,h.t,if_neg (show ¬ (true=false) by decide)] at hc4
   by_cases ctk:Z.tk=[]
   ·rw [if_pos ctk] at hc4;cases hc4
   ·rw [if_neg ctk] at hc4
    by_cases cq:q < ownS Z.pages\/Z.pages<=q\/Z.at q.toNat=false
    ·rw [if_pos cq] at hc4;cases hc4
    ·rw [h.r.pg] at cq
     have hm:=zkDc (pages:=S.pages) (q:=q.toNat) (by omega)
     have hml:(S.now (mapP q.toNat)).length=512:=h.r.r.len _ (by omega) (by omega)
     refine ⟨clrP (S.now (mapP q.toNat)) (q.toNat % 4096),by rw [zpYY];exact hml,hm.2,hm.1,?_,?_⟩
     ·unfold BkA.give
      have ht:(S.taken q).1=true:=by
       rw [h.r.taken q]
       unfold SpM.taken
       rw [if_neg ctk,h.r.pg,decide_eq_true (by omega)]
       cases hat:Z.at q.toNat
       ·exact absurd (.inr (.inr hat)) cq
       ·rfl
      rw [h.t,if_neg (show ¬ (true=false) by decide),if_neg (fun e=>ctk (h.r.tk0.2 e)),if_neg (by rw [ht];rintro (x | x);cases x;omega)]
     ·refine Nat.le_trans (zrKb _ _ _ 512) ?_
      split<;>omega
  obtain ⟨d,d1,d2,d3,d4,d5⟩:=hz
  obtain ⟨p1,p2⟩:=zZl8 (S:=S) h.t (p:=mapP q.toNat) (by omega) (by omega) d1 d5 (by have:=h.s;omega)
  rw [d4,p1] at m2 ⊢
  rw [hc4] at m2 ⊢
  refine ⟨_,rfl,?_,h.t,fun p x0 x1=>?_,by have:=h.s;omega⟩
  ·rcases m2 with ⟨w,_⟩ | ⟨_,w⟩
   ·cases w
   ·exact w
  ·rw [zco4] at x0 x1
   rw [zGYH,if_neg (by omega)];exact h.z p x0 x1
 ·have he:S.give q=(S,(Z.give q).2)/\(Z.give q).1=Z:=by
   unfold BkA.give
   unfold SpM.give at hc4 ⊢
   rw [h.r.inT,h.t,if_neg (show ¬ (true=false) by decide)] at hc4 ⊢
   rw [if_neg (show ¬ (true=false) by decide)]
   by_cases ctk:Z.tk=[]
   ·rw [if_pos ctk,if_pos (h.r.tk0.1 ctk)];exact ⟨rfl,rfl⟩
   ·rw [if_neg ctk] at hc4 ⊢
    rw [if_neg (fun e=>ctk (h.r.tk0.2 e)),h.r.taken q]
    unfold SpM.taken
    rw [if_neg ctk]
    by_cases cq:q < ownS Z.pages\/Z.pages<=q\/Z.at q.toNat=false
    ·rw [if_pos cq]
     refine ⟨if_pos ?_,rfl⟩
     rw [h.r.pg] at cq ⊢
     rcases cq with cq | cq | cq
     ·exact .inr cq
     ·left;rw [decide_eq_false (by omega)];rfl
     ·left;show (_ && Z.at q.toNat)=false;rw [cq,Bool.and_false]
    ·rw [if_neg cq] at hc4
     exact absurd rfl hc4
  refine ⟨S,he.1,?_⟩
  rw [he.2]
  exact h.low (by omega)
end
set_option maxRecDepth 100000 in
theorem zC1G:((List.range 18).all fun o=>decide (difN (zeros 512) (ownP o) 512<=3))=true:=by decide +kernel
set_option maxRecDepth 100000 in
theorem zG0b:difN (zeros 512) hdrP 512<=6:=by decide +kernel
theorem zhTx (own:Nat):∀ (n i:Nat) (S:BkA),2<=i->S.inT=true->((i+n:Nat):Int)<=S.pages->(∀ p,0<=p->p < S.pages->(i:Int)<=p->S.now p=zeros 512)->0<=S.slack->(mapsM own n i S).2=0/\S.slack<=(mapsM own n i S).1.slack
 | 0,_,_,_,_,_,_,_=>⟨rfl,Int.le_refl _⟩
 | n+1,i,S,hi,hT,hp,hz,hs=>by
  obtain ⟨p1,p2⟩:=zZl8 (S:=S) hT (p:=(i:Int)) (by omega) (by omega) (zrlC 512) (k:=0) (by rw [hz i (by omega) (by omega) (Int.le_refl _),zxGh];exact Nat.le_refl 0) (by omega)
  unfold mapsM thenA
  rw [if_neg (show ¬ i=1 by omega),p1]
  dsimp only
  rw [if_neg (fun h=>h rfl)]
  have ih:=zhTx own n (i+1) (S.aft i (zeros 512)) (by omega) hT (by rw [zco4];omega) (fun p h0 h1 h2=>by
   rw [zco4] at h1
   rw [zGYH,if_neg (by omega)];exact hz p h0 h1 (by omega)) (by omega)
  exact ⟨ih.1,by omega⟩
section
variable {S:BkA} {Z:SpM} {c:Int}
theorem RelC.format (h:Rel S Z) (hT:S.inT=true) (hz:∀ p,0<=p->p < S.pages->S.now p=zeros 512) (hc:0<=c) (hs:c+900<=S.slack):∃ S',S.format=(S',0)/\RelC S' Z.format.1 c/\Puts S S':=by
 obtain ⟨o1,o2,o3⟩:=zju9 h.r.p0 h.r.p1
 have hp0:=h.r.p0
 obtain ⟨m1,m2⟩:=h.format hT
 obtain ⟨own,hown⟩:∃ own:Nat,ownS S.pages=own:=⟨(ownS S.pages).toNat,by omega⟩
 have hoc:difN (zeros 512) (ownP own) 512<=3:=of_decide_eq_true (List.all_eq_true.1 zC1G own (List.mem_range.2 (by omega)))
 obtain ⟨n,hn⟩:∃ n,own=n+2:=⟨own - 2,by omega⟩
 have z0:Z.format.2=0:=by
  unfold SpM.format
  rw [h.inT,hT,if_neg (show ¬ (true=false) by decide),h.pg,if_neg (by omega)]
 have hfo:S.format=thenA (mapsM own (n+1) 1 S) fun S1=>S1.put 0 hdrP:=by
  unfold BkA.format
  rw [hT,if_neg (show ¬ (true=false) by decide),if_neg (by omega),hown,Int.toNat_natCast,show own - 1=n+1 by omega]
 obtain ⟨a1,a2⟩:=zZl8 (S:=S) hT (p:=((1:Nat):Int)) (by omega) (by omega) (d:=ownP own) (zsf6 own) (k:=3) (by rw [hz _ (by omega) (by omega)];exact hoc) (by omega)
 obtain ⟨S1,hS1⟩:∃ S1,S1=S.aft ((1:Nat):Int) (ownP own):=⟨_,rfl⟩
 have g1:S1.pages=S.pages:=by rw [hS1];rfl
 have t1:S1.inT=true:=by rw [hS1];exact hT
 rw [<- hS1] at a1 a2
 have hm1:mapsM own (n+1) 1 S=mapsM own n 2 S1:=by
  show thenA (S.put ((1:Nat):Int) (if 1=1 then ownP own else zeros 512)) (mapsM own n 2)=_
  unfold thenA
  rw [if_pos rfl,a1]
  dsimp only
  rw [if_neg (fun h=>h rfl)]
 have hz1:∀ p,0<=p->p < S1.pages->(2:Int)<=p->S1.now p=zeros 512:=fun p h0 h1 h2=>by
  rw [g1] at h1
  rw [hS1,zGYH,if_neg (by omega)];exact hz p h0 h1
 obtain ⟨b1,b2⟩:=zhTx own n 2 S1 (Nat.le_refl 2) t1 (by rw [g1];omega) hz1 (by omega)
 obtain ⟨c1,c2⟩:=z0aS own n 2 S1 t1 (by rw [g1];omega)
 rw [hm1] at hfo
 generalize mapsM own n 2 S1=X at hfo b1 b2 c1 c2
 obtain ⟨S2,e2⟩:=X
 dsimp only at b1 b2 c1 c2
 subst b1
 have c3:=c2.resolve_left (fun e=>by cases e)
 have g2:S2.pages=S.pages:=by rw [c1.pages,g1]
 have t2:S2.inT=true:=c1.inT.trans t1
 have n0:S2.now 0=zeros 512:=by
  rw [c3.2 0,if_neg (by omega),hS1,zGYH,if_neg (by decide)]
  exact hz 0 (by omega) (by omega)
 obtain ⟨d1,d2⟩:=zZl8 (S:=S2) t2 (p:=0) (by omega) (by omega) (d:=hdrP) zZmK (k:=6) (by rw [n0];exact zG0b) (by omega)
 have e:S.format=(S2.aft 0 hdrP,0):=by
  rw [hfo]
  unfold thenA
  dsimp only
  rw [if_neg (fun h=>h rfl),d1]
 rw [e] at m1 m2 ⊢
 dsimp only at m1 m2
 refine ⟨_,rfl,⟨?_,t2,fun p x0 x1=>?_,by omega⟩,m1⟩
 ·rcases m2 with ⟨w,_⟩ | ⟨_,w⟩
  ·cases w
  ·exact w
 ·rw [zco4,g2] at x0 x1
  rw [zGYH,if_neg (by omega),c3.2 p,if_neg (by omega),hS1,zGYH,if_neg (by omega)]
  exact hz p (by omega) (by omega)
theorem RelC.setRoot (h:RelC S Z (c+388)) (hc:0<=c) (k p:Int):∃ S',S.setRoot k p=(S',(Z.setRoot k p).2)/\RelC S' (Z.setRoot k p).1 c:=by
 obtain ⟨m1,m2⟩:=h.r.setRoot h.t k p
 obtain ⟨o1,o2,o3⟩:=h.own
 unfold BkA.setRoot SpM.setRoot at m2 ⊢
 rw [h.r.inT,h.t,if_neg (show ¬ (true=false) by decide),if_neg (show ¬ (true=false) by decide),h.r.pg] at m2 ⊢
 by_cases cq:k < 0\/7 < k\/p < 0\/S.pages<=p
 ·rw [if_pos cq,if_pos cq]
  exact ⟨S,rfl,h.low (by omega)⟩
 ·rw [if_neg cq,if_neg cq] at m2 ⊢
  by_cases ctk:Z.tk=[]
  ·rw [if_pos ctk,if_pos (h.r.tk0.1 ctk)]
   exact ⟨S,rfl,h.low (by omega)⟩
  ·rw [if_neg ctk,if_neg (fun e=>ctk (h.r.tk0.2 e))] at m2 ⊢
   have hml:(S.now 0).length=512:=h.r.r.len _ (by omega) (by omega)
   have hk:k.toNat < 8:=by omega
   have hrl:(rootP (S.now 0) k.toNat p).length=512:=by
    unfold rootP
    rw [zTAh (by rw [zmTu,hml];omega),hml]
   have hdf:difN (S.now 0) (rootP (S.now 0) k.toNat p) 512<=4:=by
    refine Nat.le_trans (zWWR _ _ (fun j=>decide (8+4*k.toNat<=j/\j < 12+4*k.toNat)) (fun j hj=>?_) 512) ?_
    ·refine decide_eq_true (Decidable.byContradiction fun hn=>hj ?_)
     have ho:∀ x:Bytes,x.length=512->512<=j->bAt x j=0:=fun x hx hj=>by
      unfold bAt
      rw [List.getD_eq_getElem?_getD,List.getElem?_eq_none (by omega)]
      rfl
     by_cases h5:512<=j
     ·rw [ho _ hml h5,ho _ hrl h5]
     ·unfold rootP
      rw [zWOc (by rw [zmTu,hml];omega) (by omega),zmTu,if_neg (by omega)]
    ·generalize k.toNat=m at hk
     have:((List.range 8).all fun m=>decide (((List.range 512).filter fun j=>decide (8+4*m<=j/\j < 12+4*m)).length<=4))=true:=by decide +kernel
     exact of_decide_eq_true (List.all_eq_true.1 this m (List.mem_range.2 hk))
   obtain ⟨p1,p2⟩:=zZl8 (S:=S) h.t (p:=0) (by omega) (by omega) hrl hdf (by have:=h.s;omega)
   rw [p1] at m2 ⊢
   dsimp only at m2
   refine ⟨_,rfl,?_,h.t,fun p x0 x1=>?_,by have:=h.s;omega⟩
   ·rcases m2 with ⟨w,_⟩ | ⟨_,w⟩
    ·cases w
    ·exact w
   ·rw [zco4] at x0 x1
    rw [zGYH,if_neg (by omega)];exact h.z p x0 x1
end
theorem zRTL {n:Int} (n0:24<=n) (n1:n<=65536):∃ S1 S2,(zT5q n).begin=(S1,0)/\S1.format=(S2,0)/\S2.pages=n - 2 - n / 2/\RelC S2 (SpM.format ⟨n - 2 - n / 2,true,[],List.replicate 8 0⟩).1 (n / 2*204 - 935):=by
 obtain ⟨S1,e1,a1,a2,a3,a4⟩:∃ S1,(zT5q n).begin=(S1,0)/\(S1.now=fun _=>zeros 512)/\S1.n=n/\S1.inT=true/\n / 2*204 - 35<=S1.slack:=by
  unfold BkA.begin
  rw [if_neg (by show ¬ false=true;decide)]
  refine ⟨_,rfl,rfl,rfl,rfl,?_⟩
  unfold BkA.slack
  dsimp only
  rw [show (zT5q n).n=n from rfl,show (zT5q n).room=n / 2*408 - 408 from rfl]
  split<;>omega
 have hr:=zFuH n0 n1
 have hr1:Rel S1 ⟨n - 2 - n / 2,true,[],List.replicate 8 0⟩:=⟨by unfold BkA.pages;rw [a2],a3.symm,by
  have:=hr.r
  rw [show S1.now=(zT5q n).now from a1,show S1.pages=(zT5q n).pages from by unfold BkA.pages;rw [a2];rfl]
  exact this⟩
 obtain ⟨S2,e2,h2,h3⟩:=RelC.format hr1 a3 (fun p _ _=>by rw [a1]) (show 0<=n / 2*204 - 935 by omega) (by omega)
 exact ⟨S1,S2,e1,e2,by rw [h3.pages];unfold BkA.pages;rw [a2],h2⟩
end Go.Proofs.YtfgagakepmigbaaGreat
