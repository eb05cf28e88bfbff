/-
  No statement is proved here.
-/
import Derived.Test.YtfgagakepmigbaaGreatJSwd
namespace Go.Proofs.YtfgagakepmigbaaGreat
open Go.RowKit
structure SpM where
 pages:Int
 inT:Bool
 tk:List Bool
 roots:List Int
def SpM.at (Z:SpM) (q:Nat):Bool:=Z.tk.getD q false
def SpM.format (Z:SpM):SpM×Int:=if Z.inT=false then (Z,7) else if Z.pages<=ownS Z.pages then (Z,5) else ({ Z with tk:=(List.range Z.pages.toNat).map fun (q:Nat)=>decide ((q:Int) < ownS Z.pages),roots:=List.replicate 8 0 },0)
def SpM.freeQ (Z:SpM):Option Nat:=(List.range Z.pages.toNat).find? fun q=>!Z.at q
def SpM.take (Z:SpM):SpM×Int×Int:=if Z.inT=false then (Z,0,7) else if Z.tk=[] then (Z,0,4) else
 match Z.freeQ with
 | none=>(Z,0,5)
 | some q=>({ Z with tk:=Z.tk.set q true },((q:Nat):Int),0)
def SpM.give (Z:SpM) (q:Int):SpM×Int:=if Z.inT=false then (Z,7) else if Z.tk=[] then (Z,4) else if q < ownS Z.pages\/Z.pages<=q\/Z.at q.toNat=false then (Z,2) else ({ Z with tk:=Z.tk.set q.toNat false },0)
def SpM.freeN (Z:SpM):Nat:=((List.range Z.pages.toNat).filter fun q=>!Z.at q).length
def SpM.free (Z:SpM):Int×Int:=if Z.tk=[] then (0,4) else ((Z.freeN:Int),0)
def SpM.taken (Z:SpM) (q:Int):Bool×Int:=if Z.tk=[] then (false,4) else (decide (0<=q/\q < Z.pages) && Z.at q.toNat,0)
def SpM.root (Z:SpM) (k:Int):Int×Int:=if k < 0\/7 < k then (0,2) else if Z.tk=[] then (0,4) else (Z.roots.getD k.toNat 0,0)
def SpM.setRoot (Z:SpM) (k p:Int):SpM×Int:=if Z.inT=false then (Z,7) else if k < 0\/7 < k\/p < 0\/Z.pages<=p then (Z,2) else if Z.tk=[] then (Z,4) else ({ Z with roots:=Z.roots.set k.toNat p },0)
structure RelS (f:Int->Bytes) (pages:Int) (tk:List Bool) (roots:List Int):Prop where
 p0:10<=pages
 p1:pages<=65536
 len:∀ p,0<=p->p < pages->(f p).length=512
 rt:roots.length=8
 is:(tk=[]/\hdrB f=false)\/(tk.length=pages.toNat/\hdrB f=true/\(∀ q,q < pages.toNat->takB f q=tk.getD q false)/\(∀ k,k < 8->rootV f k=roots.getD k 0)/\∀ q:Nat,(q:Int) < ownS pages->tk.getD q false=true)
section
variable {f:Int->Bytes} {pages:Int} {tk:List Bool} {roots:List Int}
theorem zju9 (h0:10<=pages) (h1:pages<=65536):2<=ownS pages/\ownS pages<=17/\ownS pages < pages:=by unfold ownS;omega
theorem zkDc {q:Nat} (h:q < pages.toNat):1<=mapP q/\mapP q < ownS pages:=by unfold mapP ownS;omega
theorem zB5p {q r:Nat} (h:mapP q=mapP r):q / 4096=r / 4096:=by unfold mapP at h;omega
theorem z04L {q r:Nat} (hl:(f (mapP q)).length=512):takB (updP f (mapP q) (setP (f (mapP q)) (q % 4096))) r=(decide (r=q) || takB f r):=by
 unfold takB updP
 by_cases c:mapP r=mapP q
 ·rw [if_pos c,zqPg (by rw [hl];omega),c]
  have:=zB5p c
  by_cases d:r % 4096=q % 4096
  ·rw [decide_eq_true d,decide_eq_true (show r=q by omega)]
  ·rw [decide_eq_false d,decide_eq_false (show ¬ r=q by omega)]
 ·rw [if_neg c,decide_eq_false (show ¬ r=q by rintro rfl;exact c rfl),Bool.false_or]
theorem zotf {q r:Nat} (hl:(f (mapP q)).length=512):takB (updP f (mapP q) (clrP (f (mapP q)) (q % 4096))) r=(!decide (r=q) && takB f r):=by
 unfold takB updP
 by_cases c:mapP r=mapP q
 ·rw [if_pos c,zihH (by rw [hl];omega),c]
  have:=zB5p c
  by_cases d:r % 4096=q % 4096
  ·rw [decide_eq_true d,decide_eq_true (show r=q by omega)]
  ·rw [decide_eq_false d,decide_eq_false (show ¬ r=q by omega)]
 ·rw [if_neg c,decide_eq_false (show ¬ r=q by rintro rfl;exact c rfl)];simp
theorem zyCb {p:Int} {d:Bytes} {r:Nat} (h:mapP r≠p):takB (updP f p d) r=takB f r:=by unfold takB updP;rw [if_neg h]
theorem zXXc {p:Int} {d:Bytes} (h:p≠0):hdrB (updP f p d)=hdrB f:=by unfold hdrB updP;rw [if_neg (fun e=>h e.symm)]
theorem zLl0 {p:Int} {d:Bytes} (h:p≠0) (k:Nat):rootV (updP f p d) k=rootV f k:=by unfold rootV updP;rw [if_neg (fun e=>h e.symm)]
theorem zjMR {p:Int} {d:Bytes} (hl:∀ p,0<=p->p < pages->(f p).length=512) (hd:d.length=512):∀ q,0<=q->q < pages->(updP f p d q).length=512:=fun q h0 h1=>by
 unfold updP
 split
 ·exact hd
 ·exact hl q h0 h1
theorem RelS.page (h:RelS f pages tk roots) {p:Int} {d:Bytes} (hd:d.length=512) (hp:ownS pages<=p):RelS (updP f p d) pages tk roots:=by
 obtain ⟨o1,o2,o3⟩:=zju9 h.p0 h.p1
 refine ⟨h.p0,h.p1,zjMR h.len hd,h.rt,?_⟩
 rcases h.is with ⟨a,b⟩ | ⟨a,b,c,d',e⟩
 ·exact .inl ⟨a,by rw [zXXc (by omega)];exact b⟩
 ·refine .inr ⟨a,by rw [zXXc (by omega)];exact b,fun q hq=>?_,fun k hk=>by rw [zLl0 (by omega)];exact d' k hk,e⟩
  rw [zyCb (by have:=zkDc hq;omega)]
  exact c q hq
theorem z5Im {p q:Nat->Bool}:∀ {l:List Nat},(∀ x∈l,p x=q x)->l.find? p=l.find? q
 | [],_=>rfl
 | x :: l,h=>by
  rw [List.find?_cons,List.find?_cons,h x (List.mem_cons_self ..),z5Im fun y hy=>h y (List.mem_cons_of_mem _ hy)]
theorem zq6F {p q:Nat->Bool}:∀ {l:List Nat},(∀ x∈l,p x=q x)->l.filter p=l.filter q
 | [],_=>rfl
 | x :: l,h=>by
  rw [List.filter_cons,List.filter_cons,h x (List.mem_cons_self ..),zq6F fun y hy=>h y (List.mem_cons_of_mem _ hy)]
theorem zg9w (l:List Bool) (i k:Nat) (x:Bool) (hi:i < l.length):(l.set i x).getD k false=if k=i then x else l.getD k false:=by
 simp only [List.getD_eq_getElem?_getD,List.getElem?_set]
 by_cases c:i=k
 ·rw [if_pos c,if_pos hi,if_pos c.symm];rfl
 ·rw [if_neg c,if_neg (fun h=>c h.symm)]
theorem zKlq (l:List Int) (i k:Nat) (x:Int) (hi:i < l.length):(l.set i x).getD k 0=if k=i then x else l.getD k 0:=by
 simp only [List.getD_eq_getElem?_getD,List.getElem?_set]
 by_cases c:i=k
 ·rw [if_pos c,if_pos hi,if_pos c.symm];rfl
 ·rw [if_neg c,if_neg (fun h=>c h.symm)]
end
structure Rel (S:BkA) (Z:SpM):Prop where
 pg:Z.pages=S.pages
 inT:Z.inT=S.inT
 r:RelS S.now S.pages Z.tk Z.roots
section
variable {S:BkA} {Z:SpM}
theorem Rel.tk0 (h:Rel S Z):(Z.tk=[])↔hdrB S.now=false:=by
 rcases h.r.is with ⟨a,b⟩ | ⟨a,b,_⟩
 ·exact ⟨fun _=>b,fun _=>a⟩
 ·refine ⟨fun c=>?_,fun c=>by rw [b] at c;cases c⟩
  have:=h.r.p0
  rw [c] at a;simp at a;omega
theorem Rel.free (h:Rel S Z):S.free=Z.free:=by
 unfold BkA.free SpM.free
 by_cases c:Z.tk=[]
 ·rw [if_pos c,if_pos (h.tk0.1 c)]
 ·rw [if_neg c,if_neg (fun e=>c (h.tk0.2 e))]
  rcases h.r.is with ⟨a,b⟩ | ⟨a,b,c,_⟩
  ·exact absurd a c
  ·unfold freeN SpM.freeN SpM.at BkA.N
   rw [h.pg,zq6F (l:=List.range S.pages.toNat) (p:=fun q=>!takB S.now q) (q:=fun q=>!Z.tk.getD q false) fun q hq=>by rw [c q (List.mem_range.1 hq)]]
theorem Rel.taken (h:Rel S Z) (q:Int):S.taken q=Z.taken q:=by
 unfold BkA.taken SpM.taken
 by_cases c:Z.tk=[]
 ·rw [if_pos c,if_pos (h.tk0.1 c)]
 ·rw [if_neg c,if_neg (fun e=>c (h.tk0.2 e)),h.pg]
  rcases h.r.is with ⟨a,b⟩ | ⟨a,b,c,_⟩
  ·exact absurd a c
  ·by_cases d:q < 0\/S.pages<=q
   ·rw [if_pos d,decide_eq_false (by omega)];rfl
   ·rw [if_neg d,decide_eq_true (by omega),Bool.true_and,c _ (by omega)];rfl
theorem Rel.root (h:Rel S Z) (k:Int):S.root k=Z.root k:=by
 unfold BkA.root SpM.root
 by_cases d:k < 0\/7 < k
 ·rw [if_pos d,if_pos d]
 ·rw [if_neg d,if_neg d]
  by_cases c:Z.tk=[]
  ·rw [if_pos c,if_pos (h.tk0.1 c)]
  ·rw [if_neg c,if_neg (fun e=>c (h.tk0.2 e))]
   rcases h.r.is with ⟨a,b⟩ | ⟨a,b,_,c,_⟩
   ·exact absurd a c
   ·rw [c _ (by omega)]
theorem Rel.freeQ (h:Rel S Z) (c:Z.tk≠[]):freeQ S.now S.N=Z.freeQ:=by
 rcases h.r.is with ⟨a,b⟩ | ⟨a,b,c,_⟩
 ·exact absurd a c
 ·unfold Proofs.YtfgagakepmigbaaGreat.freeQ SpM.freeQ SpM.at BkA.N
  rw [h.pg]
  exact z5Im fun q hq=>by rw [c q (List.mem_range.1 hq)]
theorem zyv2 {q:Nat} (h:Z.freeQ=some q):q < Z.pages.toNat/\Z.at q=false/\∀ r,r < q->Z.at r=true:=by
 unfold SpM.freeQ at h
 have h1:=List.find?_some h
 have h2:=List.mem_of_find?_eq_some h
 refine ⟨List.mem_range.1 h2,by simpa using h1,fun r hr=>?_⟩
 have:=List.find?_range_eq_some.1 h
 simpa using this.2.2 r hr
def zodf (S S':BkA) (e e':Int) (Z':SpM):Prop:=Puts S S'/\((e=5/\e'=0)\/(e=e'/\Rel S' Z'))
theorem Rel.take (h:Rel S Z) (hT:S.inT=true):zodf S S.take.1 S.take.2.2 Z.take.2.2 Z.take.1/\(S.take.2.2≠0->S.take.2.1=0)/\(S.take.2.2=0->S.take.2.1=Z.take.2.1):=by
 unfold BkA.take SpM.take
 rw [h.inT,hT,if_neg (show ¬ (true=false) by decide),if_neg (show ¬ (true=false) by decide)]
 by_cases c:Z.tk=[]
 ·rw [if_pos c,if_pos (h.tk0.1 c)]
  exact ⟨⟨.refl S,.inr ⟨rfl,h⟩⟩,fun _=>rfl,fun _=>rfl⟩
 ·rw [if_neg c,if_neg (fun e=>c (h.tk0.2 e)),h.freeQ c]
  cases hq:Z.freeQ with
  | none=>exact ⟨⟨.refl S,.inr ⟨rfl,h⟩⟩,fun _=>rfl,fun _=>rfl⟩
  | some q=>
   dsimp only
   obtain ⟨q1,q2,q3⟩:=zyv2 hq
   rw [h.pg] at q1
   obtain ⟨o1,o2,o3⟩:=zju9 h.r.p0 h.r.p1
   rcases h.r.is with ⟨a,b⟩ | ⟨a,b,c',d,e⟩
   ·exact absurd a c
   ·have hqo:ownS S.pages<=q:=by
     refine Int.not_lt.1 fun hlt=>?_
     have:=e q hlt
     unfold SpM.at at q2
     rw [q2] at this;cases this
    have hm:=zkDc q1
    have lz:(zeros 512).length=512:=zrlC 512
    have hml:(S.now (mapP q)).length=512:=h.r.len _ (by omega) (by omega)
    unfold BkA.takeAt thenA
    rcases zoJ0 hT (p:=(q:Int)) (by omega) (by omega) lz with ⟨_,e1⟩ | ⟨_,e1⟩
    ·rw [e1]
     dsimp only
     rw [if_pos (by decide)]
     exact ⟨⟨.refl S,.inl ⟨rfl,rfl⟩⟩,fun _=>rfl,fun h=>absurd (show (5:Int)=0 from h) (by decide)⟩
    ·rw [e1]
     dsimp only
     rw [if_neg (fun h=>h rfl)]
     have hR1:=h.r.page (p:=(q:Int)) lz hqo
     obtain ⟨f,hf0⟩:∃ f,f=updP S.now q (zeros 512):=⟨_,rfl⟩
     rw [<- hf0] at hR1
     have e2:f (mapP q)=S.now (mapP q):=by rw [hf0];unfold updP;rw [if_neg (by omega)]
     have hml2:(f (mapP q)).length=512:=by rw [e2];exact hml
     have key:RelS (updP f (mapP q) (setP (f (mapP q)) (q % 4096))) S.pages (Z.tk.set q true) Z.roots:=by
      refine ⟨h.r.p0,h.r.p1,zjMR hR1.len (by rw [zsVE];exact hml2),h.r.rt,.inr ⟨by rw [List.length_set];exact a,?_,fun r hr=>?_,fun k hk=>?_,fun r hr=>?_⟩⟩
      ·rw [zXXc (by omega),hf0,zXXc (by omega)];exact b
      ·rw [z04L hml2,zg9w _ _ _ _ (by rw [a];exact q1),hf0,zyCb (by have:=zkDc hr;omega)]
       by_cases z:r=q
       ·rw [if_pos z,decide_eq_true z];rfl
       ·rw [if_neg z,decide_eq_false z,Bool.false_or];exact c' r hr
      ·rw [zLl0 (by omega),hf0,zLl0 (by omega)];exact d k hk
      ·rw [zg9w _ _ _ _ (by rw [a];exact q1)]
       by_cases z:r=q
       ·rw [if_pos z]
       ·rw [if_neg z];exact e r hr
     rw [e2,hf0] at key
     rcases zoJ0 (S:=S.aft q (zeros 512)) hT (p:=mapP q) (by omega) (by rw [zco4];omega) (d:=setP (S.now (mapP q)) (q % 4096)) (by rw [zsVE];exact hml) with ⟨_,e3⟩ | ⟨_,e3⟩
     ·rw [e3]
      exact ⟨⟨Puts.aft _ _ _,.inl ⟨rfl,rfl⟩⟩,fun _=>rfl,fun h=>absurd (show (5:Int)=0 from h) (by decide)⟩
     ·rw [e3]
      exact ⟨⟨(Puts.aft _ _ _).trans (Puts.aft _ _ _),.inr ⟨rfl,h.pg,hT.symm,key⟩⟩,fun h=>absurd rfl h,fun _=>rfl⟩
theorem Rel.give (h:Rel S Z) (hT:S.inT=true) (q:Int):zodf S (S.give q).1 (S.give q).2 (Z.give q).2 (Z.give q).1:=by
 unfold BkA.give SpM.give
 rw [h.inT,hT,if_neg (show ¬ (true=false) by decide),if_neg (show ¬ (true=false) by decide)]
 by_cases c:Z.tk=[]
 ·rw [if_pos c,if_pos (h.tk0.1 c)]
  exact ⟨.refl S,.inr ⟨rfl,h⟩⟩
 ·rw [if_neg c,if_neg (fun e=>c (h.tk0.2 e)),h.taken,h.pg]
  obtain ⟨o1,o2,o3⟩:=zju9 h.r.p0 h.r.p1
  rcases h.r.is with ⟨a,b⟩ | ⟨a,b,c',d,e⟩
  ·exact absurd a c
  ·have hk:(Z.taken q).1=(decide (0<=q/\q < S.pages) && Z.at q.toNat):=by unfold SpM.taken;rw [if_neg c,h.pg]
   rw [hk]
   by_cases z:q < ownS S.pages\/S.pages<=q\/Z.at q.toNat=false
   ·rw [if_pos z,if_pos]
    ·exact ⟨.refl S,.inr ⟨rfl,h⟩⟩
    ·rcases z with z | z | z
     ·exact .inr z
     ·exact .inl (by rw [decide_eq_false (by omega)];rfl)
     ·exact .inl (by rw [z];simp)
   ·rw [if_neg z]
    have z1:ownS S.pages<=q:=by omega
    have z2:q < S.pages:=by omega
    have z3:Z.at q.toNat=true:=by
     cases hz:Z.at q.toNat with
     | true=>rfl
     | false=>exact absurd (.inr (.inr hz)) z
    rw [if_neg (by rw [z3,decide_eq_true (by omega)];rintro (x | x);cases x;omega)]
    have hqn:q.toNat < S.pages.toNat:=by omega
    have hm:=zkDc hqn
    have hml:(S.now (mapP q.toNat)).length=512:=h.r.len _ (by omega) (by omega)
    rcases zoJ0 hT (p:=mapP q.toNat) (by omega) (by omega) (d:=clrP (S.now (mapP q.toNat)) (q.toNat % 4096)) (by rw [zpYY];exact hml) with ⟨_,e1⟩ | ⟨_,e1⟩
    ·rw [e1];exact ⟨.refl S,.inl ⟨rfl,rfl⟩⟩
    ·rw [e1]
     have key:RelS (updP S.now (mapP q.toNat) (clrP (S.now (mapP q.toNat)) (q.toNat % 4096))) S.pages (Z.tk.set q.toNat false) Z.roots:=by
      refine ⟨h.r.p0,h.r.p1,zjMR h.r.len (by rw [zpYY];exact hml),h.r.rt,.inr ⟨by rw [List.length_set];exact a,?_,fun r hr=>?_,fun k hk=>?_,fun r hr=>?_⟩⟩
      ·rw [zXXc (by omega)];exact b
      ·rw [zotf hml,zg9w _ _ _ _ (by rw [a];exact hqn)]
       by_cases y:r=q.toNat
       ·rw [if_pos y,decide_eq_true y];rfl
       ·rw [if_neg y,decide_eq_false y];exact c' r hr
      ·rw [zLl0 (by omega)];exact d k hk
      ·rw [zg9w _ _ _ _ (by rw [a];exact hqn),if_neg (by omega)]
       exact e r hr
     exact ⟨Puts.aft _ _ _,.inr ⟨rfl,rfl,hT.symm,key⟩⟩
theorem zodL {b:Bytes} (hb:b.length=512) {k j:Nat} (hk:k < 8) (hj:j < 8) {p:Int} (h0:0<=p) (h1:p < 65536):((valN (((rootP b k p).drop (8+4*j)).take 4) 0:Nat):Int)=if j=k then p else ((valN ((b.drop (8+4*j)).take 4) 0:Nat):Int):=by
 have hl:8+4*k+(beN p.toNat 4).length<=b.length:=by rw [zmTu];omega
 have hlen:(rootP b k p).length=512:=by unfold rootP;rw [zTAh hl];exact hb
 have cl:∀ x:Bytes,x.length=512->((x.drop (8+4*j)).take 4).length=4:=fun x hx=>by rw [List.length_take,List.length_drop];omega
 have cb:∀ (x:Bytes) (i:Nat),i < 4->bAt ((x.drop (8+4*j)).take 4) i=bAt x (8+4*j+i):=fun x i hi=>by
  unfold bAt
  simp only [List.getD_eq_getElem?_getD]
  rw [List.getElem?_take,if_pos hi,List.getElem?_drop]
 by_cases c:j=k
 ·subst c
  rw [if_pos rfl]
  have e:((rootP b j p).drop (8+4*j)).take 4=beN p.toNat 4:=zdCA (by rw [cl _ hlen,zmTu]) fun i hi=>by
   rw [cl _ hlen] at hi
   rw [cb _ _ hi]
   unfold rootP
   rw [zWOc hl (by omega),if_pos (by rw [zmTu];omega)]
   congr 1;omega
  rw [e,z0pR];omega
 ·rw [if_neg c]
  have e:((rootP b k p).drop (8+4*j)).take 4=(b.drop (8+4*j)).take 4:=zdCA (by rw [cl _ hlen,cl _ hb]) fun i hi=>by
   rw [cl _ hlen] at hi
   rw [cb _ _ hi,cb _ _ hi]
   unfold rootP
   rw [zWOc hl (by omega),if_neg (by rw [zmTu];omega)]
  rw [e]
theorem zxkS {b:Bytes} (hb:b.length=512) {k:Nat} (hk:k < 8) (p:Int):(rootP b k p).take 6=b.take 6:=by
 have hl:8+4*k+(beN p.toNat 4).length<=b.length:=by rw [zmTu];omega
 have hlen:(rootP b k p).length=512:=by unfold rootP;rw [zTAh hl];exact hb
 refine zdCA (by rw [List.length_take,List.length_take,hlen,hb]) fun i hi=>?_
 rw [List.length_take,hlen] at hi
 have ct:∀ x:Bytes,bAt (x.take 6) i=bAt x i:=fun x=>by
  unfold bAt
  simp only [List.getD_eq_getElem?_getD]
  rw [List.getElem?_take,if_pos (by omega)]
 rw [ct,ct]
 unfold rootP
 rw [zWOc hl (by omega),if_neg (by omega)]
theorem Rel.setRoot (h:Rel S Z) (hT:S.inT=true) (k p:Int):zodf S (S.setRoot k p).1 (S.setRoot k p).2 (Z.setRoot k p).2 (Z.setRoot k p).1:=by
 unfold BkA.setRoot SpM.setRoot
 rw [h.inT,hT,if_neg (show ¬ (true=false) by decide),if_neg (show ¬ (true=false) by decide),h.pg]
 by_cases x:k < 0\/7 < k\/p < 0\/S.pages<=p
 ·rw [if_pos x,if_pos x];exact ⟨.refl S,.inr ⟨rfl,h⟩⟩
 ·rw [if_neg x,if_neg x]
  by_cases c:Z.tk=[]
  ·rw [if_pos c,if_pos (h.tk0.1 c)];exact ⟨.refl S,.inr ⟨rfl,h⟩⟩
  ·rw [if_neg c,if_neg (fun e=>c (h.tk0.2 e))]
   have hp0:=h.r.p0
   have hp1:=h.r.p1
   have h0l:(S.now 0).length=512:=h.r.len 0 (by omega) (by omega)
   have hk8:k.toNat < 8:=by omega
   have hrl:(rootP (S.now 0) k.toNat p).length=512:=by unfold rootP;rw [zTAh (by rw [zmTu];omega)];exact h0l
   rcases h.r.is with ⟨a,b⟩ | ⟨a,b,c',d,e⟩
   ·exact absurd a c
   ·rcases zoJ0 hT (p:=0) (by omega) (by omega) hrl with ⟨_,e1⟩ | ⟨_,e1⟩
    ·rw [e1];exact ⟨.refl S,.inl ⟨rfl,rfl⟩⟩
    ·rw [e1]
     have key:RelS (updP S.now 0 (rootP (S.now 0) k.toNat p)) S.pages Z.tk (Z.roots.set k.toNat p):=by
      refine ⟨h.r.p0,h.r.p1,zjMR h.r.len hrl,by rw [List.length_set];exact h.r.rt,.inr ⟨a,?_,fun r hr=>?_,fun j hj=>?_,e⟩⟩
      ·show ((updP S.now 0 _ 0).take 6 == sgnS)=true
       unfold updP
       rw [if_pos rfl,zxkS h0l hk8];exact b
      ·rw [zyCb (by have:=zkDc hr;omega)];exact c' r hr
      ·show ((valN (((updP S.now 0 (rootP (S.now 0) k.toNat p) 0).drop (8+4*j)).take 4) 0:Nat):Int)=_
       unfold updP
       rw [if_pos rfl,zodL h0l hk8 hj (by omega) (by omega),zKlq _ _ _ _ (by rw [h.r.rt];exact hk8)]
       by_cases z:j=k.toNat
       ·rw [if_pos z,if_pos z]
       ·rw [if_neg z,if_neg z];exact d j hj
     exact ⟨Puts.aft _ _ _,.inr ⟨rfl,rfl,hT.symm,key⟩⟩
end
theorem zcrC (n:Nat):(zeros n).length=n:=by simp [zeros]
theorem zxfH (n i:Nat):bAt (zeros n) i=0:=by
 unfold bAt zeros
 simp only [List.getD_eq_getElem?_getD,List.getElem?_replicate]
 split<;>rfl
theorem zFl4 (n k:Nat):bitP (zeros n) k=false:=by
 unfold bitP
 rw [zxfH]
 unfold bitB
 simp
theorem zsf6:∀ n,(ownP n).length=512
 | 0=>zcrC 512
 | n+1=>by unfold ownP;rw [zsVE];exact zsf6 n
theorem zP1p:∀ (n k:Nat),n<=4096->bitP (ownP n) k=decide (k < n)
 | 0,k,_=>by rw [show ownP 0=zeros 512 from rfl,zFl4];simp
 | n+1,k,h=>by
  unfold ownP
  rw [zqPg (by rw [zsf6];omega),zP1p n k (by omega)]
  by_cases c:k=n
  ·rw [decide_eq_true c,decide_eq_true (show k < n+1 by omega)];rfl
  ·rw [decide_eq_false c,Bool.false_or]
   by_cases d:k < n
   ·rw [decide_eq_true d,decide_eq_true (by omega)]
   ·rw [decide_eq_false d,decide_eq_false (by omega)]
theorem zZmK:hdrP.length=512:=by unfold hdrP;rw [List.length_append,zrlC];rfl
def mapD (own:Nat) (i:Nat):Bytes:=if i=1 then ownP own else zeros 512
theorem zQsu (own i:Nat):(mapD own i).length=512:=by
 unfold mapD
 split
 ·exact zsf6 own
 ·exact zcrC 512
theorem z0aS (own:Nat):∀ (n i:Nat) (S:BkA),S.inT=true->((i+n:Nat):Int)<=S.pages->Puts S (mapsM own n i S).1/\((mapsM own n i S).2=5\/(mapsM own n i S).2=0/\∀ p,(mapsM own n i S).1.now p=if (i:Int)<=p/\p < ((i+n:Nat):Int) then mapD own p.toNat else S.now p)
 | 0,i,S,_,_=>⟨.refl S,.inr ⟨rfl,fun p=>by rw [if_neg (by omega)];rfl⟩⟩
 | n+1,i,S,hT,hp=>by
  have e:mapsM own (n+1) i S=thenA (S.put i (mapD own i)) (mapsM own n (i+1)):=rfl
  rw [e]
  unfold thenA
  rcases zoJ0 hT (p:=(i:Int)) (by omega) (by omega) (zQsu own i) with ⟨_,e1⟩ | ⟨_,e1⟩
  ·rw [e1]
   dsimp only
   rw [if_pos (by decide)]
   exact ⟨.refl S,.inl rfl⟩
  ·rw [e1]
   dsimp only
   rw [if_neg (fun h=>h rfl)]
   obtain ⟨h1,h2⟩:=z0aS own n (i+1) (S.aft i (mapD own i)) hT (by rw [zco4];omega)
   refine ⟨(Puts.aft _ _ _).trans h1,?_⟩
   rcases h2 with h2 | ⟨h2,h3⟩
   ·exact .inl h2
   ·refine .inr ⟨h2,fun p=>?_⟩
    rw [h3 p,zGYH]
    by_cases c:p=(i:Int)
    ·subst c
     rw [if_neg (by omega),if_pos rfl,if_pos (by omega)]
     congr 1
    ·by_cases d:((i+1:Nat):Int)<=p/\p < ((i+1+n:Nat):Int)
     ·rw [if_pos d,if_pos (by omega)]
     ·rw [if_neg d,if_neg c,if_neg (by omega)]
theorem zE3u {f:Int->Bytes} {pages:Int} (h0:10<=pages) (h1:pages<=65536) (hl:∀ p,0<=p->p < pages->(f p).length=512) (hh:f 0=hdrP) (hm:∀ p,1<=p->p < ownS pages->f p=mapD (ownS pages).toNat p.toNat) :
  RelS f pages ((List.range pages.toNat).map fun (q:Nat)=>decide ((q:Int) < ownS pages)) (List.replicate 8 0):=by
 obtain ⟨o1,o2,o3⟩:=zju9 h0 h1
 have hg:∀ q,q < pages.toNat->((List.range pages.toNat).map fun (q:Nat)=>decide ((q:Int) < ownS pages)).getD q false=decide ((q:Int) < ownS pages):=fun q hq=>by
  rw [List.getD_eq_getElem?_getD,List.getElem?_map,List.getElem?_range hq];rfl
 refine ⟨h0,h1,hl,by simp,.inr ⟨by simp,?_,fun q hq=>?_,fun k hk=>?_,fun q hq=>?_⟩⟩
 ·unfold hdrB;rw [hh];decide +kernel
 ·rw [hg q hq]
  unfold takB
  have hmq:=zkDc hq
  rw [hm _ hmq.1 hmq.2]
  unfold mapD mapP
  by_cases c:q < 4096
  ·rw [if_pos (by omega),zP1p _ _ (by omega)]
   by_cases d:(q:Int) < ownS pages
   ·rw [decide_eq_true d,decide_eq_true (by omega)]
   ·rw [decide_eq_false d,decide_eq_false (by omega)]
  ·rw [if_neg (by omega),zFl4,decide_eq_false (by omega)]
 ·unfold rootV
  rw [hh]
  have:((List.range 8).all fun k=>valN ((hdrP.drop (8+4*k)).take 4) 0 == 0)=true:=by decide +kernel
  have:=eq_of_beq (List.all_eq_true.1 this k (List.mem_range.2 hk))
  rw [this]
  rw [List.getD_eq_getElem?_getD,List.getElem?_replicate,if_pos hk];rfl
 ·rw [hg q (by omega)];simpa using hq
section
variable {S:BkA} {Z:SpM}
theorem Rel.format (h:Rel S Z) (hT:S.inT=true):zodf S S.format.1 S.format.2 Z.format.2 Z.format.1:=by
 unfold BkA.format SpM.format
 obtain ⟨o1,o2,o3⟩:=zju9 h.r.p0 h.r.p1
 have hp0:=h.r.p0
 have hp1:=h.r.p1
 rw [h.inT,hT,if_neg (show ¬ (true=false) by decide),if_neg (show ¬ (true=false) by decide),h.pg,if_neg (by omega),if_neg (by omega)]
 obtain ⟨m1,m2⟩:=z0aS (ownS S.pages).toNat ((ownS S.pages).toNat - 1) 1 S hT (by omega)
 unfold thenA
 rcases m2 with m2 | ⟨m2,m3⟩
 ·rw [if_pos (by rw [m2];decide)]
  exact ⟨m1,.inl ⟨m2,rfl⟩⟩
 ·rw [if_neg (fun c=>c m2)]
  generalize mapsM (ownS S.pages).toNat ((ownS S.pages).toNat - 1) 1 S=X at m1 m2 m3
  have hT1:X.1.inT=true:=m1.inT.trans hT
  dsimp only
  rcases zoJ0 hT1 (p:=0) (by omega) (by rw [m1.pages];omega) zZmK with ⟨_,e1⟩ | ⟨_,e1⟩
  ·rw [e1];exact ⟨m1,.inl ⟨rfl,rfl⟩⟩
  ·rw [e1]
   refine ⟨m1.trans (Puts.aft _ _ _),.inr ⟨rfl,by show S.pages=X.1.pages;rw [m1.pages],hT1.symm,?_⟩⟩
   show RelS (updP X.1.now 0 hdrP) (X.1.pages) _ _
   rw [m1.pages]
   refine zE3u hp0 hp1 (fun p q0 q1=>?_) ?_ fun p q0 q1=>?_
   ·unfold updP
    by_cases c:p=0
    ·rw [if_pos c];exact zZmK
    ·rw [if_neg c,m3 p]
     split
     ·exact zQsu _ _
     ·exact h.r.len p q0 q1
   ·unfold updP;rw [if_pos rfl]
   ·unfold updP;rw [if_neg (by omega),m3 p,if_pos (by omega)]
theorem zFuH {n:Int} (n0:24<=n) (n1:n<=65536):Rel (zT5q n) ⟨(zT5q n).pages,false,[],List.replicate 8 0⟩:=by
 refine ⟨rfl,rfl,by show 10<=n - 2 - n / 2;omega,by show n - 2 - n / 2<=65536;omega,fun p _ _=>zcrC 512,by simp,.inl ⟨rfl,?_⟩⟩
 show ((zeros 512).take 6 == sgnS)=false
 decide +kernel
end
end Go.Proofs.YtfgagakepmigbaaGreat
