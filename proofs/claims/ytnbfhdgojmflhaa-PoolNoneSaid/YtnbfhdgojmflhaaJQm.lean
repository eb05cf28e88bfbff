/-
  No statement is proved here.
-/
import Derived.Test.YtnbfhdgojmflhaaJKz
namespace Go.Proofs.Ytnbfhdgojmflhaa
open Go.RowKit
structure FrM where
 page:Int
 b:Bytes
 held:Int
 used:Bool
 dirty:Bool
 first:Int
 last:Int
structure PoolM where
 first:Int
 blocks:Int
 most:Int
 hand:Int
 ring:List FrM
def wrF (pf:Int) (f:FrM) (L:LogM) (D:DevM):FrM×LogM×DevM×Int:=
 let x:=if L.safe<=f.last then L.force D else (L,D,0)
 if x.2.2≠0 then (f,x.1,x.2.1,x.2.2) else
 let y:=x.2.1.write (pf+f.page) f.b
 if y.1≠0 then (f,x.1,y.2,y.1) else ({ f with dirty:=false,first:=0 },x.1,y.2,0)
def zNrE:Nat->PoolM->LogM->DevM->PoolM×LogM×DevM×Nat×Int
 | 0,P,L,D=>(P,L,D,0,9)
 | n+1,P,L,D=>
  let k:=(P.hand % P.ring.length).toNat
  let P1:PoolM:={ P with hand:=(k:Int)+1 }
  match P.ring[k]? with
  | none=>(P1,L,D,0,9)
  | some f=>
   if 0 < f.held then zNrE n P1 L D else
   if f.used then zNrE n { P1 with ring:=P1.ring.set k { f with used:=false } } L D else
   if f.dirty then
    let x:=wrF P.first f L D
    if x.2.2.2≠0 then (P1,x.2.1,x.2.2.1,0,x.2.2.2) else ({ P1 with ring:=P1.ring.set k x.1 },x.2.1,x.2.2.1,k,0)
   else (P1,L,D,k,0)
def PoolM.at (P:PoolM) (page:Int):Nat:=P.ring.findIdx (fun f=>f.page == page)
def newF (page:Int) (b:Bytes):FrM:=⟨page,b,0,true,false,0,0⟩
def ziLQ (P:PoolM) (L:LogM) (D:DevM) (page:Int):PoolM×LogM×DevM×Nat×Int:=
 if page < 0\/P.blocks<=page then (P,L,D,0,6) else
 let i:=P.at page
 match P.ring[i]? with
 | some f=>({ P with ring:=P.ring.set i { f with used:=true } },L,D,i,0)
 | none=>
  if (P.ring.length:Int) < P.most then ({ P with ring:=P.ring ++ [newF page (D.latest (P.first+page))] },L,D,P.ring.length,0) else
  let x:=zNrE (2*P.most+1).toNat P L D
  if x.2.2.2.2≠0 then x else
  ({ x.1 with ring:=x.1.ring.set x.2.2.2.1 (newF page (x.2.2.1.latest (P.first+page))) },x.2.1,x.2.2.1,x.2.2.2.1,0)
def layO (b:Bytes) (off:Nat) (m:Bytes):Bytes:=b.take off ++ (m ++ b.drop (off+m.length))
def zpi7 (P:PoolM) (L:LogM) (D:DevM) (page off:Int) (m:Bytes) (lsn:Int):PoolM×LogM×DevM×Int:=
 if page < 0\/P.blocks<=page then (P,L,D,6) else
 if off < 0\/512 < off\/m=[]\/512 - off < (m.length:Int)\/lsn < 1\/L.fin<=lsn then (P,L,D,2) else
 let x:=ziLQ P L D page
 if x.2.2.2.2≠0 then (x.1,x.2.1,x.2.2.1,x.2.2.2.2) else
 match x.1.ring[x.2.2.2.1]? with
 | none=>(x.1,x.2.1,x.2.2.1,0)
 | some f=>({ x.1 with ring:=x.1.ring.set x.2.2.2.1 { f with b:=layO f.b off.toNat m,last:=max f.last lsn,dirty:=true,first:=if f.dirty then f.first else lsn } },x.2.1,x.2.2.1,0)
def zfTq:List Nat->PoolM->LogM->DevM->PoolM×LogM×DevM×Int
 | [],P,L,D=>(P,L,D,0)
 | i :: is,P,L,D=>
  match P.ring[i]? with
  | none=>(P,L,D,0)
  | some f=>
   let x:=wrF P.first f L D
   if x.2.2.2≠0 then (P,x.2.1,x.2.2.1,x.2.2.2) else zfTq is { P with ring:=P.ring.set i x.1 } x.2.1 x.2.2.1
def PoolM.pageAt (P:PoolM) (i:Nat):Int:=(P.ring.getD i ⟨0,[],0,false,false,0,0⟩).page
def PoolM.dirtyAt (P:PoolM) (i:Nat):Bool:=(P.ring.getD i ⟨0,[],0,false,false,0,0⟩).dirty
def PoolM.rows (P:PoolM):List Nat:=((List.range P.ring.length).filter P.dirtyAt).mergeSort (fun i j=>decide (P.pageAt i<=P.pageAt j))
def zx6l (P:PoolM) (L:LogM) (D:DevM):PoolM×LogM×DevM×Int:=
 let x:=zfTq P.rows P L D
 if x.2.2.2≠0 then x else (x.1,x.2.1,x.2.2.1.syncR.2,x.2.2.1.syncR.1)
theorem z1G7 (F C a:Int) (hC:0 < C):F<=secB F C a/\secB F C a < F+C:=by
 unfold secB
 have h1:=Int.emod_nonneg ((a - 1) / 51) (show C*8≠0 by omega)
 have h2:=Int.emod_lt_of_pos ((a - 1) / 51) (show 0 < C*8 by omega)
 omega
structure OutS (F C:Int) (D D':DevM):Prop where
 safe:D'.safe=D.safe
 n:D'.n=D.n
 out:∀ k,(k < F\/F+C<=k)->D'.opn k=D.opn k
theorem OutS.refl (F C:Int) (D:DevM):OutS F C D D:=⟨rfl,rfl,fun _ _=>rfl⟩
theorem OutS.crash {F C:Int} {D D1:DevM} (h:OutS F C D D1):OutS F C D D1.crash:=by
 obtain ⟨h1,h2,h3⟩:=z4HA D1
 exact ⟨h2.trans h.safe,h1.trans h.n,fun x hx=>by rw [h3];exact h.out x hx⟩
theorem OutS.write {F C:Int} {D D1:DevM} (h:OutS F C D D1) {b:Int} (hb:F<=b/\b < F+C) (pg:Bytes):OutS F C D (D1.write b pg).2:=by
 unfold DevM.write
 split
 ·exact h
 ·split
  ·exact h
  ·refine OutS.crash ⟨h.safe,h.n,fun x hx=>?_⟩
   show updF D1.opn b pg x=_
   unfold updF
   rw [if_neg (by omega)]
   exact h.out x hx
theorem OutS.pour {F C T:Int} (hC:0 < C):∀ (f:Nat) {D D1:DevM} (rest:Bytes) (fst:Int),OutS F C D D1->OutS F C D (pourM F C T f D1 rest fst).1
 | 0,_,_,_,_,h=>h
 | f+1,D,D1,rest,fst,h=>by
  unfold pourM
  split
  ·exact h
  ·split
   ·exact h
   ·dsimp only
    split
    ·exact h.write (z1G7 F C fst hC) _
    ·exact OutS.pour hC f _ _ (h.write (z1G7 F C fst hC) _)
theorem z4dJ {L:LogM} {D:DevM} (hC:0 < L.count):((L.force D).2.2=0->(L.safe=L.fin/\L.force D=(L,D,0))\/∃ D1,OutS L.first L.count D D1/\D1.crash.down=false/\(L.force D).2.1=D1.crash.sync) /\
  ((L.force D).2.2≠0->OutS L.first L.count D (L.force D).2.1):=by
 by_cases hs:L.safe=L.fin
 ·rw [zOAL hs]
  exact ⟨fun _=>.inl ⟨hs,rfl⟩,fun h=>absurd rfl h⟩
 ·obtain ⟨X,hX⟩:∃ X,X=pourM L.first L.count L.turn (L.tail.length+1) D L.tail L.beg:=⟨_,rfl⟩
  have h1:OutS L.first L.count D X.1:=by rw [hX];exact OutS.pour hC _ _ _ (OutS.refl _ _ _)
  have hv:L.force D=if X.2≠0 then (L,X.1,X.2) else L.forceEnd X.1:=by unfold LogM.force;rw [if_neg hs,<- hX];rfl
  obtain ⟨y,hy⟩:∃ y,y=if secO L.count L.fin=0/\secF L.fin=L.fin then X.1.write (secB L.first L.count L.fin) (zeros 512) else (0,X.1):=⟨_,rfl⟩
  have h2:OutS L.first L.count D y.2:=by
   rw [hy]
   split
   ·exact h1.write (z1G7 _ _ _ hC) _
   ·exact h1
  have hv2:L.forceEnd X.1=if y.1≠0 then (L,y.2,y.1) else if y.2.syncR.1≠0 then (L,y.2.syncR.2,y.2.syncR.1) else (z5H0 L,y.2.syncR.2,0):=by rw [hy];rfl
  rw [hv]
  by_cases hx:X.2≠0
  ·rw [if_pos hx]
   exact ⟨fun h=>absurd h hx,fun _=>h1⟩
  ·rw [if_neg hx,hv2]
   by_cases c1:y.1≠0
   ·rw [if_pos c1]
    exact ⟨fun h=>absurd h c1,fun _=>h2⟩
   ·rw [if_neg c1]
    by_cases c2:y.2.syncR.1≠0
    ·rw [if_pos c2]
     refine ⟨fun h=>absurd h c2,fun _=>?_⟩
     show OutS _ _ D y.2.syncR.2
     unfold DevM.syncR at c2 ⊢
     split
     ·exact h2
     ·split
      ·exact h2.crash
      ·rename_i m1 m2;rw [if_neg m1,if_neg m2] at c2;exact absurd rfl c2
    ·rw [if_neg c2]
     refine ⟨fun _=>.inr ⟨y.2,h2,?_⟩,fun h=>absurd rfl h⟩
     unfold DevM.syncR at c2 ⊢
     by_cases m1:y.2.mayE 0≠0
     ·rw [if_pos m1] at c2;exact absurd m1 c2
     ·rw [if_neg m1] at c2 ⊢
      by_cases m2:y.2.crash.down=true
      ·rw [if_pos m2] at c2;exact absurd (show (8:Int)≠0 by decide) c2
      ·rw [if_neg m2]
       exact ⟨by simpa using m2,rfl⟩
end Go.Proofs.Ytnbfhdgojmflhaa
