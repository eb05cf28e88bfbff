/-
  No statement is proved here.
-/
import Derived.Test.YtnbfhdgojmflhaaJKept
namespace Go.Proofs.Ytnbfhdgojmflhaa
open Go.RowKit
def beN (n:Nat):Nat->Bytes
 | 0=>[]
 | k+1=>UInt8.ofNat (n / 256 ^ k) :: beN n k
theorem zmTu (n:Nat):∀ k,(beN n k).length=k
 | 0=>rfl
 | k+1=>by simp [beN,zmTu n k]
def valN:Bytes->Nat->Nat
 | [],a=>a
 | x :: l,a=>valN l (a*256+x.toNat)
theorem zMuK:∀ (l:Bytes) (a:Nat),valN l a=a*256 ^ l.length+valN l 0
 | [],a=>by simp [valN]
 | x :: l,a=>by
  show valN l (a*256+x.toNat)=a*256 ^ (l.length+1)+valN l (0*256+x.toNat)
  rw [zMuK l (a*256+x.toNat),zMuK l (0*256+x.toNat),Nat.pow_succ,Nat.add_mul,Nat.add_mul]
  have:a*256*256 ^ l.length=a*(256 ^ l.length*256):=by rw [Nat.mul_assoc,Nat.mul_comm 256]
  omega
theorem zEqO:∀ l:Bytes,valN l 0 < 256 ^ l.length
 | []=>by simp [valN]
 | x :: l=>by
  show valN l (0*256+x.toNat) < 256 ^ (l.length+1)
  rw [zMuK,Nat.pow_succ]
  have h1:=zEqO l
  have h2:=x.toNat_lt
  have h3:(0*256+x.toNat)*256 ^ l.length<=255*256 ^ l.length:=Nat.mul_le_mul_right _ (by omega)
  omega
theorem z0pR (n:Nat):∀ k,valN (beN n k) 0=n % 256 ^ k
 | 0=>by simp [beN,valN,Nat.mod_one]
 | k+1=>by
  show valN (beN n k) (0*256+(UInt8.ofNat (n / 256 ^ k)).toNat)=_
  have e:n % (256 ^ k*256)=n % 256 ^ k+256 ^ k*(n / 256 ^ k % 256):=Nat.mod_mul
  have e2:(UInt8.ofNat (n / 256 ^ k)).toNat=n / 256 ^ k % 256:=by rw [UInt8.toNat_ofNat']
  rw [zMuK,zmTu,z0pR n k,e2,Nat.pow_succ,e,Nat.zero_mul,Nat.zero_add,Nat.mul_comm (256 ^ k) (n / 256 ^ k % 256)]
  exact Nat.add_comm _ _
theorem zcvo:∀ l:Bytes,beN (valN l 0) l.length=l
 | []=>rfl
 | x :: l=>by
  have e:valN (x :: l) 0=x.toNat*256 ^ l.length+valN l 0:=by
   show valN l (0*256+x.toNat)=_
   rw [zMuK];simp
  have h1:=zEqO l
  have hp:0 < 256 ^ l.length:=Nat.pow_pos (by decide)
  show UInt8.ofNat (valN (x :: l) 0 / 256 ^ l.length) :: beN (valN (x :: l) 0) l.length=_
  rw [e]
  congr 1
  ·rw [Nat.add_comm,Nat.add_mul_div_right _ _ hp,Nat.div_eq_of_lt h1,Nat.zero_add]
   simp
  ·have hb:∀ (k m a:Nat),k<=l.length->beN (a*256 ^ l.length+m) k=beN m k:=by
    intro k
    induction k with
    | zero=>intro m a _;rfl
    | succ k ih=>
     intro m a hk
     show _ :: _=_ :: _
     rw [ih m a (by omega)]
     congr 1
     apply UInt8.toNat_inj.1
     rw [UInt8.toNat_ofNat',UInt8.toNat_ofNat']
     have e2:a*256 ^ l.length=a*256 ^ (l.length - (k+1))*256*256 ^ k:=by
      rw [Nat.mul_assoc,Nat.mul_assoc,<- Nat.pow_succ',<- Nat.pow_add]
      congr 2
      omega
     rw [e2,Nat.add_comm,Nat.add_mul_div_right _ _ (Nat.pow_pos (by decide))]
     show (m / 256 ^ k+a*256 ^ (l.length - (k+1))*256) % 256=m / 256 ^ k % 256
     omega
   rw [hb l.length (valN l 0) x.toNat (Nat.le_refl _)]
   exact zcvo l
def crcS (c:Nat):Nat:=(c / 2) ^^^ (3988292384*(c % 2))
def crcB (c:Nat) (x:UInt8):Nat:=crcS (crcS (crcS (crcS (crcS (crcS (crcS (crcS (c ^^^ x.toNat))))))))
def crcL (l:Bytes):Nat:=(l.foldl crcB 4294967295) ^^^ 4294967295
structure RecM where
 lsn:Int
 turn:Int
 kind:UInt8
 tx:Int
 prev:Int
 next:Int
 blk:Int
 off:Int
 old:Bytes
 new:Bytes
def topM:Int:=4611686018427387904
def inM (n:Int):Prop:=0<=n/\n<=topM
instance (n:Int):Decidable (inM n):=by unfold inM;infer_instance
def fitsM (r:RecM):Prop:=0<=r.blk/\r.blk < 65536/\0<=r.off/\r.off < 512/\1<=r.new.length/\(r.new.length:Int)<=512 - r.off
instance (r:RecM):Decidable (fitsM r):=by unfold fitsM;infer_instance
def zZer (r:RecM):Prop:=1<=r.lsn/\r.lsn<=topM/\1<=r.turn/\r.turn < 2147483648/\inM r.tx/\inM r.prev/\inM r.next /\
 ((r.kind=1/\r.next=0/\fitsM r/\r.old.length=r.new.length)\/(r.kind=2/\fitsM r/\r.old=[])\/((r.kind=3\/r.kind=4)/\r.next=0/\r.blk=0/\r.off=0/\r.old=[]/\r.new=[]))
instance (r:RecM):Decidable (zZer r):=by unfold zZer;infer_instance
def bodyM (r:RecM):Bytes:=r.kind :: (beN r.tx.toNat 8 ++ (beN r.prev.toNat 8 ++ ((if r.kind=2 then beN r.next.toNat 8 else []) ++
 (if r.new=[] then [] else beN r.blk.toNat 4 ++ (beN r.off.toNat 2 ++ (beN r.new.length 2 ++ (r.old ++ r.new)))))))
def headM (r:RecM):Bytes:=beN r.lsn.toNat 8 ++ (beN r.turn.toNat 4 ++ beN (bodyM r).length 2)
def encM (r:RecM):Bytes:=headM r ++ (beN (crcL (headM r ++ bodyM r)) 4 ++ bodyM r)
def sgn (n:Nat):Int:=if n < 9223372036854775808 then n else (n:Int) - 18446744073709551616
def cut (l:Bytes) (a n:Nat):Bytes:=(l.drop a).take n
def gN (b:Bytes):Nat:=valN (cut b 12 2) 0
def gBody (b:Bytes):Bytes:=cut b 18 (gN b)
def gBad (b:Bytes):Prop:=b.length - 18 < gN b\/gN b < 17\/valN (cut b 14 4) 0≠crcL (b.take 14 ++ gBody b)
instance (b:Bytes):Decidable (gBad b):=by unfold gBad;infer_instance
def gKind (b:Bytes):UInt8:=bAt (gBody b) 0
def gR0 (b:Bytes):RecM:=⟨sgn (valN (cut b 0 8) 0),valN (cut b 8 4) 0,gKind b,sgn (valN (cut (gBody b) 1 8) 0),sgn (valN (cut (gBody b) 9 8) 0),0,0,0,[],[]⟩
def gRest (b:Bytes):Bytes:=(gBody b).drop 17
def gUn (b:Bytes):Prop:=gKind b=2/\8<=(gRest b).length
instance (b:Bytes):Decidable (gUn b):=by unfold gUn;infer_instance
def gR1 (b:Bytes):RecM:=if gUn b then { gR0 b with next:=sgn (valN (cut (gRest b) 0 8) 0) } else gR0 b
def zZTg (b:Bytes):Bytes:=if gUn b then (gRest b).drop 8 else gRest b
def gM (b:Bytes):Nat:=valN (cut (zZTg b) 6 2) 0
def gR2 (b:Bytes):RecM:={ gR1 b with blk:=valN (cut (zZTg b) 0 4) 0,off:=valN (cut (zZTg b) 4 2) 0 }
def zdWe (b:Bytes):Bytes:=(zZTg b).drop 8
def gOl (b:Bytes):Prop:=gKind b=1/\gM b<=(zdWe b).length
instance (b:Bytes):Decidable (gOl b):=by unfold gOl;infer_instance
def gR3 (b:Bytes):RecM:=if gOl b then { gR2 b with old:=(zdWe b).take (gM b) } else gR2 b
def z3N4 (b:Bytes):Bytes:=if gOl b then (zdWe b).drop (gM b) else zdWe b
def gR4 (b:Bytes):RecM:={ gR3 b with new:=z3N4 b }
def getL (b:Bytes):Option (RecM×Nat):=
 if b.length < 18 then none else
 if gBad b then none else
 if gKind b=2\/gKind b=1 then
  if (zZTg b).length < 8 then none else
  if (z3N4 b).length≠gM b then none else
  if zZer (gR4 b) then some (gR4 b,18+gN b) else none
 else if 0 < (zZTg b).length\/¬ zZer (gR1 b) then none else some (gR1 b,18+gN b)
def hN (b:Bytes):Nat:=valN (cut b 12 2) 0
def hKind (b:Bytes):UInt8:=bAt b 18
def hR0 (b:Bytes):RecM:=⟨sgn (valN (cut b 0 8) 0),valN (cut b 8 4) 0,hKind b,sgn (valN (cut b 19 8) 0),sgn (valN (cut b 27 8) 0),0,0,0,[],[]⟩
def hUn (b:Bytes):Prop:=hKind b=2/\25<=hN b
instance (b:Bytes):Decidable (hUn b):=by unfold hUn;infer_instance
def hR1 (b:Bytes):RecM:=if hUn b then { hR0 b with next:=sgn (valN (cut b 35 8) 0) } else hR0 b
def hAt (b:Bytes):Nat:=if hUn b then 43 else 35
def hSp (b:Bytes):Prop:=(hKind b=2\/hKind b=1)/\hAt b+8<=18+hN b
instance (b:Bytes):Decidable (hSp b):=by unfold hSp;infer_instance
def hM (b:Bytes):Nat:=valN (cut b (hAt b+6) 2) 0
def hR2 (b:Bytes):RecM:={ hR1 b with blk:=valN (cut b (hAt b) 4) 0,off:=valN (cut b (hAt b+4) 2) 0 }
def hOl (b:Bytes):Prop:=hKind b=1/\hAt b+8+2*hM b=18+hN b
instance (b:Bytes):Decidable (hOl b):=by unfold hOl;infer_instance
def hR3 (b:Bytes):RecM:=if hOl b then { hR2 b with old:=cut b (hAt b+8) (hM b) } else hR2 b
def hAt3 (b:Bytes):Nat:=if hOl b then hAt b+8+hM b else hAt b+8
def hNw (b:Bytes):Prop:=hAt3 b+hM b=18+hN b
instance (b:Bytes):Decidable (hNw b):=by unfold hNw;infer_instance
def hR4 (b:Bytes):RecM:=if hNw b then { hR3 b with new:=cut b (hAt3 b) (hM b) } else hR3 b
def hR (b:Bytes):RecM:=if hSp b then hR4 b else hR1 b
end Go.Proofs.Ytnbfhdgojmflhaa
