/-
  No statement is proved here.
-/
import Derived.Test.YtfgagakepmigbaaGreatJSmf
namespace Go.Proofs.YtfgagakepmigbaaGreat
open Go.RowKit
theorem zX4W {S:BkA} {p:Int} {d:Bytes} (h:(S.put p d).2≠0):(S.put p d).1=S:=by
 unfold BkA.put at h ⊢
 split
 ·rfl
 ·split
  ·rfl
  ·split
   ·rfl
   ·split
    ·rfl
    ·rename_i a b c d
     rw [if_neg a,if_neg b,if_neg c,if_neg d] at h
     exact absurd rfl h
theorem zf3N {S:BkA} (h:S.inT=true):∃ S1 S2,S.commit=(S1,0)/\S1.begin=(S2,0)/\S1.now=S.now/\S1.n=S.n/\S1.inT=false/\S2.now=S.now/\S2.was=S.now/\S2.n=S.n/\S2.inT=true:=by
 have e1:S.commit=({ S with inT:=false,room:=S.room - 35,chg:=0 },0):=by unfold BkA.commit;rw [if_neg (by rw [h];decide)]
 obtain ⟨S1,hS1⟩:∃ S1,S1={ S with inT:=false,room:=S.room - 35,chg:=0 }:=⟨_,rfl⟩
 have t1:S1.inT=false:=by rw [hS1]
 have n1:S1.now=S.now:=by rw [hS1]
 have m1:S1.n=S.n:=by rw [hS1]
 rw [<- hS1] at e1
 obtain ⟨S2,e2,f1,f2,f3,f4⟩:∃ S2,S1.begin=(S2,0)/\S2.now=S1.now/\S2.was=S1.now/\S2.n=S1.n/\S2.inT=true:=by
  unfold BkA.begin
  rw [if_neg (by rw [t1];decide)]
  exact ⟨_,rfl,rfl,rfl,rfl,rfl⟩
 exact ⟨S1,S2,e1,e2,n1,m1,t1,f1.trans n1,f2.trans n1,f3.trans m1,f4⟩
theorem zhWV {S:BkA} (h:S.inT=true):∃ S1 S2,S.abort=(S1,0)/\S1.begin=(S2,0)/\S1.now=S.was/\S1.n=S.n/\S1.inT=false/\S2.now=S.was/\S2.was=S.was/\S2.n=S.n/\S2.inT=true:=by
 have e1:S.abort=({ S with inT:=false,now:=S.was,room:=S.room - S.owed,chg:=0 },0):=by unfold BkA.abort;rw [if_neg (by rw [h];decide)]
 obtain ⟨S1,hS1⟩:∃ S1,S1={ S with inT:=false,now:=S.was,room:=S.room - S.owed,chg:=0 }:=⟨_,rfl⟩
 have t1:S1.inT=false:=by rw [hS1]
 have n1:S1.now=S.was:=by rw [hS1]
 have m1:S1.n=S.n:=by rw [hS1]
 rw [<- hS1] at e1
 obtain ⟨S2,e2,f1,f2,f3,f4⟩:∃ S2,S1.begin=(S2,0)/\S2.now=S1.now/\S2.was=S1.now/\S2.n=S1.n/\S2.inT=true:=by
  unfold BkA.begin
  rw [if_neg (by rw [t1];decide)]
  exact ⟨_,rfl,rfl,rfl,rfl,rfl⟩
 exact ⟨S1,S2,e1,e2,n1,m1,t1,f1.trans n1,f2.trans n1,f3.trans m1,f4⟩
section
variable {S S':BkA} {Z:SpM}
theorem Rel.of_now {b:Bool} (h:RelS S.now S.pages Z.tk Z.roots) (hn:S'.now=S.now) (hm:S'.n=S.n) (hp:Z.pages=S.pages) (ht:S'.inT=b):Rel S' { Z with inT:=b }:=by
 have hpg:S'.pages=S.pages:=by unfold BkA.pages;rw [hm]
 exact ⟨by rw [hpg];exact hp,ht.symm,by rw [hn,hpg];exact h⟩
theorem Rel.take_full (h:Rel S Z) (hT:S.inT=true) (hf:S.take.2.2=5):Rel S.take.1 Z/\Puts S S.take.1:=by
 refine ⟨?_,(h.take hT).1.1⟩
 unfold BkA.take at hf ⊢
 rw [hT,if_neg (show ¬ (true=false) by decide)] at hf ⊢
 by_cases c:hdrB S.now=false
 ·rw [if_pos c] at hf;cases hf
 ·rw [if_neg c] at hf ⊢
  cases hq:Proofs.YtfgagakepmigbaaGreat.freeQ S.now S.N with
  | none=>exact h
  | some q=>
   rw [hq] at hf
   dsimp only at hf ⊢
   have ctk:Z.tk≠[]:=fun e=>c (h.tk0.1 e)
   rw [h.freeQ ctk] at hq
   obtain ⟨q1,q2,q3⟩:=zyv2 hq
   rw [h.pg] at q1
   rcases h.r.is with ⟨a,b⟩ | ⟨a,b,c',d,e⟩
   ·exact absurd a ctk
   ·have hqo:ownS S.pages<=q:=by
     refine Int.not_lt.1 fun hlt=>?_
     have:=e q hlt
     unfold SpM.at at q2
     rw [q2] at this;cases this
    have lz:(zeros 512).length=512:=zrlC 512
    unfold BkA.takeAt thenA at hf ⊢
    rcases zoJ0 hT (p:=(q:Int)) (by omega) (by omega) lz with ⟨_,e1⟩ | ⟨_,e1⟩
    ·rw [e1]
     dsimp only
     rw [if_pos (by decide)]
     exact h
    ·rw [e1] at hf ⊢
     dsimp only at hf ⊢
     rw [if_neg (fun h=>h rfl)] at hf ⊢
     rw [zX4W (by rw [hf];decide)]
     exact ⟨h.pg,h.inT.trans rfl,h.r.page lz hqo⟩
theorem Rel.take_e (h:Rel S Z) (hT:S.inT=true) (ctk:Z.tk≠[]):(S.take.2.2=5/\Rel S.take.1 Z)\/(S.take.2.2=0/\Rel S.take.1 Z.take.1/\∃ q,Z.freeQ=some q/\S.take.2.1=(q:Nat)/\Z.take=({ Z with tk:=Z.tk.set q true },((q:Nat):Int),0)):=by
 by_cases hf:S.take.2.2=5
 ·exact .inl ⟨hf,(h.take_full hT hf).1⟩
 ·obtain ⟨⟨m1,m2⟩,m3,m4⟩:=h.take hT
  have hz:Z.take=match Z.freeQ with
   | none=>(Z,0,5)
   | some q=>({ Z with tk:=Z.tk.set q true },((q:Nat):Int),0):=by
   unfold SpM.take
   rw [h.inT,hT,if_neg (show ¬ (true=false) by decide),if_neg ctk]
   cases Z.freeQ<;>rfl
  cases hq:Z.freeQ with
  | none=>
   rw [hq] at hz
   dsimp only at hz
   rcases m2 with ⟨w,_⟩ | ⟨w,_⟩
   ·exact absurd w hf
   ·rw [hz] at w;exact absurd w hf
  | some q=>
   rw [hq] at hz
   dsimp only at hz
   rcases m2 with ⟨w,_⟩ | ⟨w,w2⟩
   ·exact absurd w hf
   ·have h0:S.take.2.2=0:=by rw [w,hz]
    exact .inr ⟨h0,w2,q,rfl,by rw [m4 h0,hz],hz⟩
end
structure SR (S:BkA) (R:List Int):Prop where
 t:S.inT=true
 p:S.pages=34
 z:∃ Z:SpM,Rel S Z/\Z.tk≠[]/\Z.roots=R
section
variable {S:BkA} {R:List Int}
theorem SR.set (h:SR S R) {k p:Int} (k0:0<=k) (k1:k < 8) (p0:0<=p) (p1:p < 34):(S.setRoot k p).1.inT=true/\((S.setRoot k p).2=5\/(S.setRoot k p).2=0/\SR (S.setRoot k p).1 (R.set k.toNat p)):=by
 obtain ⟨Z,z1,z2,z3⟩:=h.z
 obtain ⟨m1,m2⟩:=z1.setRoot h.t k p
 have hz:Z.setRoot k p=({ Z with roots:=Z.roots.set k.toNat p },0):=by
  unfold SpM.setRoot
  rw [z1.inT,h.t,if_neg (show ¬ (true=false) by decide),z1.pg,h.p,if_neg (by omega),if_neg z2]
 refine ⟨m1.inT.trans h.t,?_⟩
 rw [hz] at m2
 rcases m2 with ⟨w,_⟩ | ⟨w,w2⟩
 ·exact .inl w
 ·exact .inr ⟨w,m1.inT.trans h.t,m1.pages.trans h.p,_,w2,z2,by rw [<- z3]⟩
theorem SR.take (h:SR S R):(S.take.2.2=0\/S.take.2.2=5)/\SR S.take.1 R:=by
 obtain ⟨Z,z1,z2,z3⟩:=h.z
 have hp:=(z1.take h.t).1.1
 rcases z1.take_e h.t z2 with ⟨e,r⟩ | ⟨e,r,q,-,-,hz⟩
 ·exact ⟨.inr e,hp.inT.trans h.t,hp.pages.trans h.p,Z,r,z2,z3⟩
 ·refine ⟨.inl e,hp.inT.trans h.t,hp.pages.trans h.p,Z.take.1,r,?_,?_⟩
  ·rw [hz]
   intro e
   have:=congrArg List.length (show Z.tk.set q true=[] from e)
   rw [List.length_set] at this
   exact z2 (List.length_eq_zero_iff.1 this)
  ·rw [hz];exact z3
theorem SR.next (h:SR S R):∃ S1 S2,S.commit=(S1,0)/\S1.begin=(S2,0)/\SR S2 R:=by
 obtain ⟨S1,S2,e1,e2,-,-,-,f1,-,f3,f4⟩:=zf3N h.t
 obtain ⟨Z,z1,z2,z3⟩:=h.z
 have:=Rel.of_now (S':=S2) z1.r f1 f3 z1.pg f4
 exact ⟨S1,S2,e1,e2,f4,by unfold BkA.pages;rw [f3];exact h.p,_,this,z2,z3⟩
theorem SR.root (h:SR S R) {k:Int} (k0:0<=k) (k1:k < 8):S.root k=(R.getD k.toNat 0,0):=by
 obtain ⟨Z,z1,z2,z3⟩:=h.z
 rw [z1.root k]
 unfold SpM.root
 rw [if_neg (by omega),if_neg z2,z3]
theorem SR.len (h:SR S R):R.length=8:=by
 obtain ⟨Z,z1,z2,z3⟩:=h.z
 rw [<- z3];exact z1.r.rt
theorem SR.made {c:Int} (h:RelC S (SpM.format ⟨34,true,[],List.replicate 8 0⟩).1 c) (hp:S.pages=34):SR S (List.replicate 8 0):=⟨h.t,hp,_,h.r,by decide +kernel,rfl⟩
end
def cntM (m:List Bool):Nat->Nat
 | 0=>0
 | n+1=>cntM m n+if m.getD n false=true then 1 else 0
structure Mine (Z:SpM) (m:List Bool) (c:Int):Prop where
 len:m.length=64
 at_:∀ q,q < 34->Z.at q=(decide (q < 2) || m.getD q false)
 lo:∀ q,q < 2\/34<=q->m.getD q false=false
 cnt:c=(cntM m 34:Nat)
 pg:Z.pages=34
 tk:Z.tk≠[]
theorem zmrz {m:List Bool} (hl:m.length=64) {q:Nat} (hq:q < 64) (b:Bool):∀ n,((cntM (m.set q b) n:Nat):Int)=(cntM m n:Nat)+if q < n then (if b=true then 1 else 0) - (if m.getD q false=true then 1 else 0) else 0
 | 0=>by simp [cntM]
 | n+1=>by
  have ih:=zmrz hl hq b n
  have hx:=zg9w m q n b (by omega)
  show ((cntM (m.set q b) n+(if (m.set q b).getD n false=true then 1 else 0):Nat):Int)=((cntM m n+(if m.getD n false=true then 1 else 0):Nat):Int)+_
  rw [hx]
  by_cases c:n=q
  ·subst c
   rw [if_neg (show ¬ n < n by omega)] at ih
   rw [if_pos rfl,if_pos (show n < n+1 by omega)]
   cases b<;>cases m.getD n false<;>simp<;>omega
  ·rw [if_neg c]
   by_cases d:q < n
   ·rw [if_pos d] at ih
    rw [if_pos (show q < n+1 by omega),Int.natCast_add,Int.natCast_add,ih];omega
   ·rw [if_neg d] at ih
    rw [if_neg (show ¬ q < n+1 by omega),Int.natCast_add,Int.natCast_add,ih];omega
theorem zWju {Z:SpM} {m:List Bool} (ha:∀ q,q < 34->Z.at q=(decide (q < 2) || m.getD q false)) (hlo:∀ q,q < 2\/34<=q->m.getD q false=false):∀ n,n<=34->((List.range n).filter fun q=>!Z.at q).length+cntM m n=n - min n 2
 | 0,_=>by simp [cntM]
 | n+1,h=>by
  have ih:=zWju ha hlo n (by omega)
  rw [List.range_succ,List.filter_append,List.length_append]
  unfold cntM
  have h1:=ha n (by omega)
  by_cases c:n < 2
  ·have h2:=hlo n (.inl c)
   rw [h2] at h1 ⊢
   rw [decide_eq_true c] at h1
   rw [List.filter_cons_of_neg (by simp [h1]),List.filter_nil,List.length_nil,if_neg (by decide)]
   omega
  ·rw [decide_eq_false c,Bool.false_or] at h1
   cases hm:m.getD n false with
   | true=>
    rw [hm] at h1
    rw [List.filter_cons_of_neg (by simp [h1]),List.filter_nil,List.length_nil,if_pos rfl]
    omega
   | false=>
    rw [hm] at h1
    rw [List.filter_cons_of_pos (by simp [h1]),List.filter_nil,if_neg (by decide)]
    simp only [List.length_cons,List.length_nil]
    omega
section
variable {S S':BkA} {Z:SpM} {m k:List Bool} {c d:Int}
theorem Mine.free (h:Mine Z m c):Z.free=(32 - c,0):=by
 have h1:=zWju h.at_ h.lo 34 (Nat.le_refl _)
 unfold SpM.free SpM.freeN
 rw [if_neg h.tk,h.pg,show (34:Int).toNat=34 from rfl,h.cnt]
 congr 1
 omega
theorem Mine.bound (h:Mine Z m c):0<=c/\c<=32:=by
 have h1:=zWju h.at_ h.lo 34 (Nat.le_refl _)
 rw [h.cnt];omega
theorem Mine.some (h:Mine Z m c) {q:Nat} (hq:Z.freeQ=some q):2<=q/\q < 34/\m.getD q false=false/\c < 32:=by
 obtain ⟨q1,q2,q3⟩:=zyv2 hq
 rw [h.pg] at q1
 have q4:q < 34:=by omega
 have ha:=h.at_ q q4
 rw [q2] at ha
 have h1:=zWju h.at_ h.lo 34 (Nat.le_refl _)
 have hp:0 < ((List.range 34).filter fun q=>!Z.at q).length:=List.length_pos_of_mem (List.mem_filter.2 ⟨List.mem_range.2 q4,by rw [q2];rfl⟩)
 have hx:¬ q < 2:=fun e=>by rw [decide_eq_true e] at ha;cases ha
 refine ⟨by omega,q4,?_,by have:=h.cnt;omega⟩
 rw [decide_eq_false hx,Bool.false_or] at ha
 exact ha.symm
theorem Mine.set (h:Mine Z m c) (hl:Z.tk.length=34) {q:Nat} (q0:2<=q) (q1:q < 34) (b:Bool):Mine { Z with tk:=Z.tk.set q b } (m.set q b) (c+((if b=true then 1 else 0) - (if m.getD q false=true then 1 else 0))):=by
 have hlen:=h.len
 refine ⟨by rw [List.length_set];exact hlen,fun r hr=>?_,fun r hr=>?_,?_,h.pg,fun e=>?_⟩
 ·unfold SpM.at
  rw [zg9w _ _ _ _ (by omega),zg9w _ _ _ _ (by omega)]
  by_cases x:r=q
  ·rw [if_pos x,if_pos x,decide_eq_false (by omega),Bool.false_or]
  ·rw [if_neg x,if_neg x];exact h.at_ r hr
 ·rw [zg9w _ _ _ _ (by omega),if_neg (by omega)];exact h.lo r hr
 ·have:=zmrz hlen (q:=q) (by omega) b 34
  rw [if_pos (by omega)] at this
  rw [this,h.cnt]
 ·have:=congrArg List.length (show Z.tk.set q b=[] from e)
  rw [List.length_set,hl] at this
  cases this
theorem Rel.tlen (h:Rel S Z) (ht:Z.tk≠[]):Z.tk.length=S.pages.toNat:=by
 rcases h.r.is with ⟨a,b⟩ | ⟨a,b⟩
 ·exact absurd a ht
 ·exact a
structure SO (S:BkA) (m k:List Bool) (c d:Int):Prop where
 t:S.inT=true
 p:S.pages=34
 z:∃ Z:SpM,Rel S Z/\Mine Z m c
 v:∃ Z:SpM,RelS S.was 34 Z.tk Z.roots/\Mine Z k d
theorem zbXf (hn:S'.n=S.n):S'.pages=S.pages:=by unfold BkA.pages;rw [hn]
theorem SO.undo (h:SO S m k c d) (hp:Puts S S'):∃ S1 S2,S'.abort=(S1,0)/\S1.begin=(S2,0)/\SO S2 k k d d:=by
 obtain ⟨S1,S2,e1,e2,-,-,-,f1,f2,f3,f4⟩:=zhWV (hp.inT.trans h.t)
 obtain ⟨Z,z1,z2⟩:=h.v
 have hpg:S2.pages=34:=by rw [zbXf f3,hp.pages];exact h.p
 have hw:S'.was=S.was:=hp.was
 rw [hw] at f1 f2
 refine ⟨S1,S2,e1,e2,f4,hpg,⟨{ Z with inT:=true },⟨by rw [hpg];exact z2.pg,f4.symm,by rw [f1,hpg];exact z1⟩,?_⟩,Z,by rw [f2];exact z1,z2⟩
 exact ⟨z2.len,z2.at_,z2.lo,z2.cnt,z2.pg,z2.tk⟩
theorem SO.keep (h:SO S m k c d):∃ S1 S2,S.commit=(S1,0)/\S1.begin=(S2,0)/\SO S2 m m c c:=by
 obtain ⟨S1,S2,e1,e2,-,-,-,f1,f2,f3,f4⟩:=zf3N h.t
 obtain ⟨Z,z1,z2⟩:=h.z
 have hpg:S2.pages=34:=by rw [zbXf f3];exact h.p
 have hr:=z1.r
 rw [h.p] at hr
 exact ⟨S1,S2,e1,e2,f4,hpg,⟨Z,⟨by rw [hpg];exact z2.pg,by rw [z1.inT,h.t,f4],by rw [f1,hpg];exact hr⟩,z2⟩,Z,by rw [f2];exact hr,z2⟩
theorem SO.free (h:SO S m k c d):S.free=(32 - c,0):=by
 obtain ⟨Z,z1,z2⟩:=h.z
 rw [z1.free,z2.free]
theorem SO.bound (h:SO S m k c d):0<=c/\c<=32/\0<=d/\d<=32/\m.length=64/\k.length=64:=by
 obtain ⟨Z,z1,z2⟩:=h.z
 obtain ⟨Y,y1,y2⟩:=h.v
 exact ⟨z2.bound.1,z2.bound.2,y2.bound.1,y2.bound.2,z2.len,y2.len⟩
theorem SO.give (h:SO S m k c d) {q:Nat} (q0:2<=q) (q1:q < 34):Puts S (S.give q).1/\((S.give q).2=5 \/
  ((m.getD q false=true/\(S.give q).2=0)\/(m.getD q false=false/\(S.give q).2=2))/\SO (S.give q).1 (m.set q false) k (c - if m.getD q false=true then 1 else 0) d):=by
 obtain ⟨Z,z1,z2⟩:=h.z
 obtain ⟨m1,m2⟩:=z1.give h.t q
 refine ⟨m1,?_⟩
 have hl:=z1.tlen z2.tk
 rw [h.p] at hl
 have hat:=z2.at_ q q1
 rw [decide_eq_false (show ¬ q < 2 by omega),Bool.false_or] at hat
 have hz:Z.give q=if m.getD q false=false then (Z,2) else ({ Z with tk:=Z.tk.set q false },0):=by
  unfold SpM.give
  rw [z1.inT,h.t,if_neg (show ¬ (true=false) by decide),if_neg z2.tk,z2.pg,Int.toNat_natCast,hat]
  by_cases x:m.getD q false=false
  ·rw [if_pos x,if_pos (.inr (.inr x))]
  ·rw [if_neg x,if_neg]
   rintro (e | e | e)
   ·have:ownS 34=2:=by decide
    omega
   ·omega
   ·exact x e
 have hwas:(S.give q).1.was=S.was:=m1.was
 rcases m2 with ⟨w,_⟩ | ⟨w,w2⟩
 ·exact .inl w
 ·right
  have hset:=z2.set hl q0 q1 false
  refine ⟨?_,m1.inT.trans h.t,m1.pages.trans h.p,?_,by rw [hwas];exact h.v⟩
  ·rw [w,hz]
   cases hm:m.getD q false
   ·exact .inr ⟨rfl,rfl⟩
   ·exact .inl ⟨rfl,rfl⟩
  ·rw [hz] at w2
   cases hm:m.getD q false with
   | false=>
    rw [hm] at w2 hset
    rw [if_pos rfl] at w2
    have hms:m.set q false=m:=by
     refine List.ext_getElem? fun r=>?_
     rw [List.getElem?_set]
     by_cases x:q=r
     ·subst x
      rw [if_pos rfl]
      have hq:q < m.length:=by rw [z2.len];omega
      rw [if_pos hq]
      rw [List.getD_eq_getElem?_getD,List.getElem?_eq_getElem hq] at hm
      rw [List.getElem?_eq_getElem hq]
      have:m[q]=false:=hm
      rw [this]
     ·rw [if_neg x]
    rw [hms]
    exact ⟨Z,w2,by rw [if_neg (by decide),Int.sub_zero];exact z2⟩
   | true=>
    rw [hm] at w2 hset
    rw [if_neg (by decide)] at w2
    refine ⟨_,w2,?_⟩
    have e:c+((if (false:Bool)=true then (1:Int) else 0) - if (true:Bool)=true then 1 else 0)=c - if (true:Bool)=true then 1 else 0:=by simp;omega
    rw [e] at hset
    exact hset
theorem Rel.take_now (h:Rel S Z) (hT:S.inT=true) (ctk:Z.tk≠[]) (h0:S.take.2.2=0) {q:Nat} (hq:Z.freeQ=some q):S.take.1.now q=zeros 512:=by
 obtain ⟨q1,q2,q3⟩:=zyv2 hq
 rw [h.pg] at q1
 unfold BkA.take at h0 ⊢
 rw [hT,if_neg (show ¬ (true=false) by decide),if_neg (fun e=>ctk (h.tk0.2 e)),h.freeQ ctk,hq] at h0 ⊢
 dsimp only at h0 ⊢
 rcases h.r.is with ⟨a,b⟩ | ⟨a,b,c',d,e⟩
 ·exact absurd a ctk
 ·have hqo:ownS S.pages<=q:=by
   refine Int.not_lt.1 fun hlt=>?_
   have:=e q hlt
   unfold SpM.at at q2
   rw [q2] at this;cases this
  have hm:=zkDc q1
  have hml:(S.now (mapP q)).length=512:=h.r.len _ (by omega) (by omega)
  unfold BkA.takeAt thenA at h0 ⊢
  rcases zoJ0 hT (p:=(q:Int)) (by omega) (by omega) (zrlC 512) with ⟨_,e1⟩ | ⟨_,e1⟩
  ·rw [e1] at h0
   dsimp only at h0
   rw [if_pos (by decide)] at h0
   exact absurd (show (5:Int)=0 from h0) (by decide)
  ·rw [e1] at h0 ⊢
   dsimp only at h0 ⊢
   rw [if_neg (fun h=>h rfl)] at h0 ⊢
   rcases zoJ0 (S:=S.aft q (zeros 512)) hT (p:=mapP q) (by omega) (by rw [zco4];omega) (d:=setP (S.now (mapP q)) (q % 4096)) (by rw [zsVE];exact hml) with ⟨_,e3⟩ | ⟨_,e3⟩
   ·rw [e3] at h0
    exact absurd (show (5:Int)=0 from h0) (by decide)
   ·rw [e3]
    rw [zGYH,if_neg (by omega),zGYH,if_pos rfl]
theorem SO.take (h:SO S m k c d):Puts S S.take.1/\((S.take.2.2=5/\SO S.take.1 m k c d) \/
  (S.take.2.2=0/\∃ q:Nat,S.take.2.1=q/\2<=q/\q < 34/\m.getD q false=false/\c < 32/\S.take.1.now q=zeros 512/\SO S.take.1 (m.set q true) k (c+1) d)):=by
 obtain ⟨Z,z1,z2⟩:=h.z
 have hp:=(z1.take h.t).1.1
 have hwas:S.take.1.was=S.was:=hp.was
 have hl:=z1.tlen z2.tk
 rw [h.p] at hl
 refine ⟨hp,?_⟩
 rcases z1.take_e h.t z2.tk with ⟨e,r⟩ | ⟨e,r,q,hq,hv,hz⟩
 ·exact .inl ⟨e,hp.inT.trans h.t,hp.pages.trans h.p,⟨Z,r,z2⟩,by rw [hwas];exact h.v⟩
 ·obtain ⟨q0,q1,q2,q3⟩:=z2.some hq
  refine .inr ⟨e,q,hv,q0,q1,q2,q3,z1.take_now h.t z2.tk e hq,hp.inT.trans h.t,hp.pages.trans h.p,⟨_,r,?_⟩,by rw [hwas];exact h.v⟩
  have hset:=z2.set hl q0 q1 true
  rw [q2] at hset
  rw [hz]
  exact hset
theorem SO.put (h:SO S m k c d) {q:Nat} (q0:2<=q) (q1:q < 34) {b:Bytes} (hb:b.length=512):((S.put q b).2=0\/(S.put q b).2=5)/\SO (S.put q b).1 m k c d:=by
 obtain ⟨Z,z1,z2⟩:=h.z
 rcases zoJ0 h.t (p:=(q:Int)) (by omega) (by rw [h.p];omega) hb with ⟨_,e⟩ | ⟨_,e⟩
 ·rw [e];exact ⟨.inr rfl,h⟩
 ·rw [e]
  refine ⟨.inl rfl,h.t,h.p,⟨Z,⟨z1.pg,z1.inT,?_⟩,z2⟩,h.v⟩
  have e:ownS 34=2:=by decide
  exact z1.r.page hb (by rw [h.p];omega)
theorem SO.made {c:Int} (h:RelC S (SpM.format ⟨34,true,[],List.replicate 8 0⟩).1 c) (hp:S.pages=34):∃ S1 S2,S.commit=(S1,0)/\S1.begin=(S2,0)/\SO S2 (List.replicate 64 false) (List.replicate 64 false) 0 0:=by
 obtain ⟨S1,S2,e1,e2,-,-,-,f1,f2,f3,f4⟩:=zf3N h.t
 have hpg:S2.pages=34:=by rw [zbXf f3];exact hp
 have hr:=h.r.r
 rw [hp] at hr
 have hm:Mine (SpM.format ⟨34,true,[],List.replicate 8 0⟩).1 (List.replicate 64 false) 0:=by
  refine ⟨by simp,?_,fun q hq=>?_,?_,rfl,by decide +kernel⟩
  ·have:((List.range 34).all fun q=>(SpM.format ⟨34,true,[],List.replicate 8 0⟩).1.at q == (decide (q < 2) || (List.replicate 64 false).getD q false))=true:=by decide +kernel
   exact fun q hq=>eq_of_beq (List.all_eq_true.1 this q (List.mem_range.2 hq))
  ·rw [List.getD_eq_getElem?_getD,List.getElem?_replicate]
   split<;>rfl
  ·decide +kernel
 exact ⟨S1,S2,e1,e2,f4,hpg,⟨_,⟨by rw [hpg];rfl,by rw [h.r.inT,h.t,f4],by rw [f1,hpg];exact hr⟩,hm⟩,_,by rw [f2];exact hr,hm⟩
end
end Go.Proofs.YtfgagakepmigbaaGreat
