/-
  No statement is proved here.
-/
import Derived.Test.YtnbfhdgojmflhaaJGm
namespace Go.Proofs.Ytnbfhdgojmflhaa
open Go.RowKit
theorem zKTR {c:Nat} (h:c < 2 ^ 32):crcS c < 2 ^ 32:=by
 unfold crcS
 exact Nat.xor_lt_two_pow (by omega) (by omega)
theorem zmgQ {c:Nat} (x:UInt8) (h:c < 2 ^ 32):crcB c x < 2 ^ 32:=by
 have hx:x.toNat < 2 ^ 32:=Nat.lt_trans x.toNat_lt (by decide)
 unfold crcB
 exact zKTR (zKTR (zKTR (zKTR (zKTR (zKTR (zKTR (zKTR (Nat.xor_lt_two_pow h hx))))))))
theorem zQ6z:∀ (l:Bytes) (c:Nat),c < 2 ^ 32->l.foldl crcB c < 2 ^ 32
 | [],_,h=>h
 | x :: l,c,h=>zQ6z l (crcB c x) (zmgQ x h)
theorem z2X7 (l:Bytes):crcL l < 2 ^ 32:=Nat.xor_lt_two_pow (zQ6z l _ (by decide)) (by decide)
theorem z08T (l:Bytes) (a n:Nat) (h:a+n<=l.length):(cut l a n).length=n:=by
 unfold cut;rw [List.length_take,List.length_drop];omega
theorem zfcg (l:Bytes) (a n:Nat):cut l a n ++ l.drop (a+n)=l.drop a:=by
 have e:l.drop (a+n)=(l.drop a).drop n:=by simp [List.drop_drop]
 unfold cut
 rw [e,List.take_append_drop]
theorem zB1P (l:Bytes) (a n m:Nat):cut l a n ++ cut l (a+n) m=cut l a (n+m):=by
 have e:l.drop (a+n)=(l.drop a).drop n:=by simp [List.drop_drop]
 unfold cut
 rw [e,List.take_add]
theorem zDKy (p x q:Bytes) (a n:Nat) (hp:p.length=a) (hx:x.length=n):cut (p ++ (x ++ q)) a n=x:=by
 subst hp hx;simp [cut]
theorem zgvi {v:Nat} (h:0<=sgn v) (hv:v < 256 ^ 8):sgn v=v/\v < 2 ^ 63:=by
 unfold sgn at *
 split at h<;>rename_i h1
 ·rw [if_pos h1];omega
 ·omega
theorem zfEu {v:Nat} (h:v < 2 ^ 63):sgn v=v:=by
 unfold sgn;rw [if_pos (by omega)]
theorem zcYU (l:Bytes) (a n:Nat) (h:a+n<=l.length):beN (valN (cut l a n) 0) n=cut l a n:=by
 have:=zcvo (cut l a n)
 rwa [z08T l a n h] at this
theorem z3ZJ (l:Bytes) (a n:Nat) (h:a+n<=l.length):valN (cut l a n) 0 < 256 ^ n:=by
 have:=zEqO (cut l a n)
 rwa [z08T l a n h] at this
theorem zY50 (l:Bytes) (a:Nat) (h:a+8<=l.length) (hp:0<=sgn (valN (cut l a 8) 0)):beN (sgn (valN (cut l a 8) 0)).toNat 8=cut l a 8:=by
 rw [(zgvi hp (z3ZJ l a 8 h)).1,Int.toNat_natCast,zcYU l a 8 h]
theorem zQye {r:RecM} (hk:r.kind=1) (hn:r.new≠[]):bodyM r=r.kind :: (beN r.tx.toNat 8 ++ (beN r.prev.toNat 8 ++
  (beN r.blk.toNat 4 ++ (beN r.off.toNat 2 ++ (beN r.new.length 2 ++ (r.old ++ r.new)))))):=by
 unfold bodyM
 rw [if_neg (by rw [hk];decide),if_neg hn,List.nil_append]
theorem zqZB {r:RecM} (hk:r.kind=2) (hn:r.new≠[]):bodyM r=r.kind :: (beN r.tx.toNat 8 ++ (beN r.prev.toNat 8 ++ (beN r.next.toNat 8 ++
  (beN r.blk.toNat 4 ++ (beN r.off.toNat 2 ++ (beN r.new.length 2 ++ (r.old ++ r.new))))))):=by
 unfold bodyM
 rw [if_pos hk,if_neg hn]
theorem zGcZ {r:RecM} (hk:r.kind≠2) (hn:r.new=[]):bodyM r=r.kind :: (beN r.tx.toNat 8 ++ beN r.prev.toNat 8):=by
 unfold bodyM
 rw [if_neg hk,if_pos hn,List.nil_append,List.append_nil]
theorem z34p (r:RecM):(encM r).length=18+(bodyM r).length:=by
 simp [encM,headM,zmTu];omega
theorem zM7A (r:RecM):(headM r).length=14:=by simp [headM,zmTu]
theorem zMOy (B:Bytes) (h:1<=B.length):B=bAt B 0 :: B.drop 1:=by
 cases B with
 | nil=>simp at h
 | cons x T=>rfl
theorem zbkT (B:Bytes) (h:17<=B.length):B=bAt B 0 :: (cut B 1 8 ++ (cut B 9 8 ++ B.drop 17)):=by
 rw [show B.drop 17=B.drop (9+8) from rfl,zfcg,show B.drop 9=B.drop (1+8) from rfl,zfcg]
 exact zMOy B (by omega)
theorem zFhr (R:Bytes):R=cut R 0 4 ++ (cut R 4 2 ++ (cut R 6 2 ++ R.drop 8)):=by
 rw [show R.drop 8=R.drop (6+2) from rfl,zfcg,show R.drop 6=R.drop (4+2) from rfl,zfcg,show R.drop 4=R.drop (0+4) from rfl,zfcg]
 rfl
theorem zJul {b:Bytes} {r:RecM} (hg:¬ gBad b) (hl:¬ b.length < 18) (hr:zZer r) (h1:r.lsn=sgn (valN (cut b 0 8) 0)) (h2:r.turn=((valN (cut b 8 4) 0:Nat):Int))
  (hb:bodyM r=gBody b):zZer r/\18+gN b=(encM r).length/\encM r=b.take (18+gN b):=by
 have g1:¬ (b.length - 18 < gN b):=fun h=>hg (.inl h)
 have g3:valN (cut b 14 4) 0=crcL (b.take 14 ++ gBody b):=Decidable.byContradiction (fun h=>hg (.inr (.inr h)))
 have lb:(gBody b).length=gN b:=z08T _ _ _ (by omega)
 have e1:beN r.lsn.toNat 8=cut b 0 8:=by
  have h0:=hr.1
  rw [h1] at h0 ⊢
  exact zY50 b 0 (by omega) (by omega)
 have e2:beN r.turn.toNat 4=cut b 8 4:=by rw [h2,Int.toNat_natCast,zcYU b 8 4 (by omega)]
 have e3:beN (bodyM r).length 2=cut b 12 2:=by rw [hb,lb];exact zcYU b 12 2 (by omega)
 have e4:headM r=b.take 14:=by
  unfold headM
  rw [e1,e2,e3,show cut b 12 2=cut b (8+4) 2 from rfl,zB1P,show cut b 8 (4+2)=cut b (0+8) 6 from rfl,zB1P]
  rfl
 have e5:beN (crcL (headM r ++ bodyM r)) 4=cut b 14 4:=by rw [e4,hb,<- g3,zcYU b 14 4 (by omega)]
 refine ⟨hr,?_,?_⟩
 ·rw [z34p,hb,lb]
 ·unfold encM
  rw [e5,e4,hb]
  unfold gBody
  rw [show cut b 18 (gN b)=cut b (14+4) (gN b) from rfl,zB1P,show b.take 14=cut b 0 14 from rfl,show cut b 14 (4+gN b)=cut b (0+14) (4+gN b) from by rw [Nat.zero_add],zB1P]
  unfold cut
  rw [List.drop_zero]
  congr 1
  omega
theorem zlMr {r:RecM} (hr:zZer r):(r.kind=1/\r.next=0/\fitsM r/\r.old.length=r.new.length)\/(r.kind=2/\fitsM r/\r.old=[]) \/
  ((r.kind=3\/r.kind=4)/\r.next=0/\r.blk=0/\r.off=0/\r.old=[]/\r.new=[]):=hr.2.2.2.2.2.2.2
theorem zagO {b:Bytes} {r:RecM} {k:Nat} (h:getL b=some (r,k)):zZer r/\k=(encM r).length/\encM r=b.take k:=by
 unfold getL at h
 split at h
 ·cases h
 rename_i hl
 split at h
 ·cases h
 rename_i hg
 have g1:¬ (b.length - 18 < gN b):=fun h=>hg (.inl h)
 have g2:¬ (gN b < 17):=fun h=>hg (.inr (.inl h))
 have lb:(gBody b).length=gN b:=z08T _ _ _ (by omega)
 have hB:=zbkT (gBody b) (by omega)
 split at h
 ·rename_i hk
  split at h
  ·cases h
  rename_i h8
  split at h
  ·cases h
  rename_i hm
  have hm:=Decidable.not_not.1 hm
  split at h
  ·rename_i hr
   obtain ⟨rfl,rfl⟩:=Prod.mk.inj (Option.some.inj h)
   have hS:=zFhr (zZTg b)
   rcases hk with hk | hk
   ·have hu:gUn b:=Decidable.byContradiction (fun hn=>by
     have:zZTg b=gRest b:=if_neg hn
     rw [this] at h8
     exact hn ⟨hk,by omega⟩)
    have ho:¬ gOl b:=fun ho=>by have:=ho.1;rw [hk] at this;exact absurd this (by decide)
    have eR:zZTg b=(gRest b).drop 8:=if_pos hu
    have e3:z3N4 b=zdWe b:=if_neg ho
    have e4:gR4 b=⟨sgn (valN (cut b 0 8) 0),valN (cut b 8 4) 0,gKind b,sgn (valN (cut (gBody b) 1 8) 0),sgn (valN (cut (gBody b) 9 8) 0),sgn (valN (cut (gRest b) 0 8) 0),
      valN (cut (zZTg b) 0 4) 0,valN (cut (zZTg b) 4 2) 0,[],zdWe b⟩:=by
     unfold gR4 gR3
     rw [if_neg ho,e3]
     unfold gR2 gR1
     rw [if_pos hu]
     rfl
    have hnew:(gR4 b).new≠[]:=fun hn=>by
     rcases zlMr hr with h | h | h
     ·rw [e4] at h;have:=h.1;rw [show (RecM.kind _)=gKind b from rfl,hk] at this;exact absurd this (by decide)
     ·have:=h.2.1.2.2.2.2.1;rw [hn] at this;simp at this
     ·rw [e4] at h;have:=h.1;rw [show (RecM.kind _)=gKind b from rfl,hk] at this;exact absurd this (by decide)
    refine zJul hg hl hr (by rw [e4]) (by rw [e4]) ?_
    rw [zqZB (by rw [e4];exact hk) hnew]
    have q1:=hr.2.2.2.2.1.1
    have q2:=hr.2.2.2.2.2.1.1
    have q3:=hr.2.2.2.2.2.2.1.1
    have l1:(gRest b).length=gN b - 17:=by unfold gRest;rw [List.length_drop,lb]
    have l2:(zZTg b).length=gN b - 25:=by rw [eR,List.length_drop,l1];omega
    have hu2:=hu.2
    rw [e4] at q1 q2 q3 ⊢
    have w1:=zY50 (gBody b) 1 (by omega) q1
    have w2:=zY50 (gBody b) 9 (by omega) q2
    have w3:=zY50 (gRest b) 0 (by omega) q3
    have w4:=zcYU (zZTg b) 0 4 (by omega)
    have w5:=zcYU (zZTg b) 4 2 (by omega)
    have w6:beN (zdWe b).length 2=cut (zZTg b) 6 2:=by
     rw [e3] at hm
     rw [hm];exact zcYU (zZTg b) 6 2 (by omega)
    show gKind b :: (beN (sgn (valN (cut (gBody b) 1 8) 0)).toNat 8 ++ (beN (sgn (valN (cut (gBody b) 9 8) 0)).toNat 8 ++ (beN (sgn (valN (cut (gRest b) 0 8) 0)).toNat 8 ++
     (beN (valN (cut (zZTg b) 0 4) 0) 4 ++ (beN (valN (cut (zZTg b) 4 2) 0) 2 ++ (beN (zdWe b).length 2 ++ ([] ++ zdWe b)))))))=gBody b
    rw [w1,w2,w3,w4,w5,w6,List.nil_append,show zdWe b=(zZTg b).drop 8 from rfl,<- hS,eR,show (gRest b).drop 8=(gRest b).drop (0+8) from rfl,zfcg]
    exact hB.symm
   ·have hu:¬ gUn b:=fun hu=>by have:=hu.1;rw [hk] at this;exact absurd this (by decide)
    have eR:zZTg b=gRest b:=if_neg hu
    have ho:gOl b:=Decidable.byContradiction (fun hn=>by
     have:z3N4 b=zdWe b:=if_neg hn
     rw [this] at hm
     exact hn ⟨hk,by omega⟩)
    have e3:z3N4 b=(zdWe b).drop (gM b):=if_pos ho
    have e4:gR4 b=⟨sgn (valN (cut b 0 8) 0),valN (cut b 8 4) 0,gKind b,sgn (valN (cut (gBody b) 1 8) 0),sgn (valN (cut (gBody b) 9 8) 0),0,
      valN (cut (zZTg b) 0 4) 0,valN (cut (zZTg b) 4 2) 0,(zdWe b).take (gM b),(zdWe b).drop (gM b)⟩:=by
     unfold gR4 gR3
     rw [if_pos ho,e3]
     unfold gR2 gR1
     rw [if_neg hu]
     rfl
    have hnew:(gR4 b).new≠[]:=fun hn=>by
     rcases zlMr hr with h | h | h
     ·have:=h.2.2.1.2.2.2.2.1;rw [hn] at this;simp at this
     ·have:=h.2.1.2.2.2.2.1;rw [hn] at this;simp at this
     ·rw [e4] at h;have:=h.1;rw [show (RecM.kind _)=gKind b from rfl,hk] at this;exact absurd this (by decide)
    refine zJul hg hl hr (by rw [e4]) (by rw [e4]) ?_
    rw [zQye (by rw [e4];exact hk) hnew]
    have q1:=hr.2.2.2.2.1.1
    have q2:=hr.2.2.2.2.2.1.1
    have l1:(gRest b).length=gN b - 17:=by unfold gRest;rw [List.length_drop,lb]
    have l2:(zZTg b).length=gN b - 17:=by rw [eR,l1]
    rw [e4] at q1 q2 ⊢
    have w1:=zY50 (gBody b) 1 (by omega) q1
    have w2:=zY50 (gBody b) 9 (by omega) q2
    have w4:=zcYU (zZTg b) 0 4 (by omega)
    have w5:=zcYU (zZTg b) 4 2 (by omega)
    have w6:beN ((zdWe b).drop (gM b)).length 2=cut (zZTg b) 6 2:=by
     rw [e3] at hm
     rw [hm];exact zcYU (zZTg b) 6 2 (by omega)
    show gKind b :: (beN (sgn (valN (cut (gBody b) 1 8) 0)).toNat 8 ++ (beN (sgn (valN (cut (gBody b) 9 8) 0)).toNat 8 ++
     (beN (valN (cut (zZTg b) 0 4) 0) 4 ++ (beN (valN (cut (zZTg b) 4 2) 0) 2 ++ (beN ((zdWe b).drop (gM b)).length 2 ++ ((zdWe b).take (gM b) ++ (zdWe b).drop (gM b)))))))=gBody b
    rw [w1,w2,w4,w5,w6,List.take_append_drop,show zdWe b=(zZTg b).drop 8 from rfl,<- hS,eR]
    exact hB.symm
  ·cases h
 ·rename_i hk
  split at h
  ·cases h
  rename_i hz
  have hz1:¬ 0 < (zZTg b).length:=fun h=>hz (.inl h)
  have hr:zZer (gR1 b):=Decidable.byContradiction (fun h=>hz (.inr h))
  obtain ⟨rfl,rfl⟩:=Prod.mk.inj (Option.some.inj h)
  have hu:¬ gUn b:=fun hu=>hk (.inl hu.1)
  have eR:zZTg b=gRest b:=if_neg hu
  have e1:gR1 b=gR0 b:=if_neg hu
  rw [e1] at hr ⊢
  have er:(gBody b).drop 17=[]:=by
   have:(gRest b).length=0:=by rw [eR] at hz1;omega
   exact List.length_eq_zero_iff.1 this
  refine zJul hg hl hr rfl rfl ?_
  have q1:0<=sgn (valN (cut (gBody b) 1 8) 0):=hr.2.2.2.2.1.1
  have q2:0<=sgn (valN (cut (gBody b) 9 8) 0):=hr.2.2.2.2.2.1.1
  rw [zGcZ (fun h=>hk (.inl h)) rfl]
  show gKind b :: (beN (sgn (valN (cut (gBody b) 1 8) 0)).toNat 8 ++ beN (sgn (valN (cut (gBody b) 9 8) 0)).toNat 8)=gBody b
  rw [zY50 (gBody b) 1 (by omega) q1,zY50 (gBody b) 9 (by omega) q2]
  rw [er,List.append_nil] at hB
  exact hB.symm
end Go.Proofs.Ytnbfhdgojmflhaa
