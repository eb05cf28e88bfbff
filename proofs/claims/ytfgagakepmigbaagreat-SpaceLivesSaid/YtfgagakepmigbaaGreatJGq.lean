/-
  No statement is proved here.
-/
import Derived.Test.YtfgagakepmigbaaGreatJLra
namespace Go.Proofs.YtfgagakepmigbaaGreat
open Go.RowKit
theorem zKTR {c:Nat} (h:c < 2 ^ 32):crcS c < 2 ^ 32:=by
 unfold crcS
 exact Nat.xor_lt_two_pow (by omega) (by omega)
theorem zmgQ {c:Nat} (x:UInt8) (h:c < 2 ^ 32):crcB c x < 2 ^ 32:=by
 have hx:x.toNat < 2 ^ 32:=Nat.lt_trans x.toNat_lt (by decide)
 unfold crcB
 exact zKTR (zKTR (zKTR (zKTR (zKTR (zKTR (zKTR (zKTR (Nat.xor_lt_two_pow h hx))))))))
theorem zQ6z:∀ (l:Bytes) (c:Nat),c < 2 ^ 32->l.foldl crcB c < 2 ^ 32
 | [],_,h=>h
 | x :: l,c,h=>zQ6z l (crcB c x) (zmgQ x h)
theorem z2X7 (l:Bytes):crcL l < 2 ^ 32:=Nat.xor_lt_two_pow (zQ6z l _ (by decide)) (by decide)
theorem z08T (l:Bytes) (a n:Nat) (h:a+n<=l.length):(cut l a n).length=n:=by
 unfold cut;rw [List.length_take,List.length_drop];omega
theorem zfcg (l:Bytes) (a n:Nat):cut l a n ++ l.drop (a+n)=l.drop a:=by
 have e:l.drop (a+n)=(l.drop a).drop n:=by simp [List.drop_drop]
 unfold cut
 rw [e,List.take_append_drop]
theorem zB1P (l:Bytes) (a n m:Nat):cut l a n ++ cut l (a+n) m=cut l a (n+m):=by
 have e:l.drop (a+n)=(l.drop a).drop n:=by simp [List.drop_drop]
 unfold cut
 rw [e,List.take_add]
theorem zDKy (p x q:Bytes) (a n:Nat) (hp:p.length=a) (hx:x.length=n):cut (p ++ (x ++ q)) a n=x:=by
 subst hp hx;simp [cut]
theorem z15A (b:Bytes) (k n a m:Nat) (h:a+m<=n):cut (cut b k n) a m=cut b (k+a) m:=by
 unfold cut
 rw [List.drop_take,List.take_take,List.drop_drop,Nat.min_eq_left (by omega)]
theorem z1VA (b:Bytes) (k a n:Nat) (h:a+n<=k):cut (b.take k) a n=cut b a n:=by
 have:=z15A b 0 k a n h
 simpa [cut] using this
theorem zgvi {v:Nat} (h:0<=sgn v) (hv:v < 256 ^ 8):sgn v=v/\v < 2 ^ 63:=by
 unfold sgn at *
 split at h<;>rename_i h1
 ·rw [if_pos h1];omega
 ·omega
theorem zfEu {v:Nat} (h:v < 2 ^ 63):sgn v=v:=by
 unfold sgn;rw [if_pos (by omega)]
theorem zcYU (l:Bytes) (a n:Nat) (h:a+n<=l.length):beN (valN (cut l a n) 0) n=cut l a n:=by
 have:=zcvo (cut l a n)
 rwa [z08T l a n h] at this
theorem z3ZJ (l:Bytes) (a n:Nat) (h:a+n<=l.length):valN (cut l a n) 0 < 256 ^ n:=by
 have:=zEqO (cut l a n)
 rwa [z08T l a n h] at this
theorem zY50 (l:Bytes) (a:Nat) (h:a+8<=l.length) (hp:0<=sgn (valN (cut l a 8) 0)):beN (sgn (valN (cut l a 8) 0)).toNat 8=cut l a 8:=by
 rw [(zgvi hp (z3ZJ l a 8 h)).1,Int.toNat_natCast,zcYU l a 8 h]
theorem zQye {r:RecM} (hk:r.kind=1) (hn:r.new≠[]):bodyM r=r.kind :: (beN r.tx.toNat 8 ++ (beN r.prev.toNat 8 ++
  (beN r.blk.toNat 4 ++ (beN r.off.toNat 2 ++ (beN r.new.length 2 ++ (r.old ++ r.new)))))):=by
 unfold bodyM
 rw [if_neg (by rw [hk];decide),if_neg hn,List.nil_append]
theorem zqZB {r:RecM} (hk:r.kind=2) (hn:r.new≠[]):bodyM r=r.kind :: (beN r.tx.toNat 8 ++ (beN r.prev.toNat 8 ++ (beN r.next.toNat 8 ++
  (beN r.blk.toNat 4 ++ (beN r.off.toNat 2 ++ (beN r.new.length 2 ++ (r.old ++ r.new))))))):=by
 unfold bodyM
 rw [if_pos hk,if_neg hn]
theorem zGcZ {r:RecM} (hk:r.kind≠2) (hn:r.new=[]):bodyM r=r.kind :: (beN r.tx.toNat 8 ++ beN r.prev.toNat 8):=by
 unfold bodyM
 rw [if_neg hk,if_pos hn,List.nil_append,List.append_nil]
theorem z34p (r:RecM):(encM r).length=18+(bodyM r).length:=by
 simp [encM,headM,zmTu];omega
theorem zM7A (r:RecM):(headM r).length=14:=by simp [headM,zmTu]
theorem zMOy (B:Bytes) (h:1<=B.length):B=bAt B 0 :: B.drop 1:=by
 cases B with
 | nil=>simp at h
 | cons x T=>rfl
theorem zbkT (B:Bytes) (h:17<=B.length):B=bAt B 0 :: (cut B 1 8 ++ (cut B 9 8 ++ B.drop 17)):=by
 rw [show B.drop 17=B.drop (9+8) from rfl,zfcg,show B.drop 9=B.drop (1+8) from rfl,zfcg]
 exact zMOy B (by omega)
theorem zFhr (R:Bytes):R=cut R 0 4 ++ (cut R 4 2 ++ (cut R 6 2 ++ R.drop 8)):=by
 rw [show R.drop 8=R.drop (6+2) from rfl,zfcg,show R.drop 6=R.drop (4+2) from rfl,zfcg,show R.drop 4=R.drop (0+4) from rfl,zfcg]
 rfl
theorem zJul {b:Bytes} {r:RecM} (hg:¬ gBad b) (hl:¬ b.length < 18) (hr:zZer r) (h1:r.lsn=sgn (valN (cut b 0 8) 0)) (h2:r.turn=((valN (cut b 8 4) 0:Nat):Int))
  (hb:bodyM r=gBody b):zZer r/\18+gN b=(encM r).length/\encM r=b.take (18+gN b):=by
 have g1:¬ (b.length - 18 < gN b):=fun h=>hg (.inl h)
 have g3:valN (cut b 14 4) 0=crcL (b.take 14 ++ gBody b):=Decidable.byContradiction (fun h=>hg (.inr (.inr h)))
 have lb:(gBody b).length=gN b:=z08T _ _ _ (by omega)
 have e1:beN r.lsn.toNat 8=cut b 0 8:=by
  have h0:=hr.1
  rw [h1] at h0 ⊢
  exact zY50 b 0 (by omega) (by omega)
 have e2:beN r.turn.toNat 4=cut b 8 4:=by rw [h2,Int.toNat_natCast,zcYU b 8 4 (by omega)]
 have e3:beN (bodyM r).length 2=cut b 12 2:=by rw [hb,lb];exact zcYU b 12 2 (by omega)
 have e4:headM r=b.take 14:=by
  unfold headM
  rw [e1,e2,e3,show cut b 12 2=cut b (8+4) 2 from rfl,zB1P,show cut b 8 (4+2)=cut b (0+8) 6 from rfl,zB1P]
  rfl
 have e5:beN (crcL (headM r ++ bodyM r)) 4=cut b 14 4:=by rw [e4,hb,<- g3,zcYU b 14 4 (by omega)]
 refine ⟨hr,?_,?_⟩
 ·rw [z34p,hb,lb]
 ·unfold encM
  rw [e5,e4,hb]
  unfold gBody
  rw [show cut b 18 (gN b)=cut b (14+4) (gN b) from rfl,zB1P,show b.take 14=cut b 0 14 from rfl,show cut b 14 (4+gN b)=cut b (0+14) (4+gN b) from by rw [Nat.zero_add],zB1P]
  unfold cut
  rw [List.drop_zero]
  congr 1
  omega
theorem zlMr {r:RecM} (hr:zZer r):(r.kind=1/\r.next=0/\fitsM r/\r.old.length=r.new.length)\/(r.kind=2/\fitsM r/\r.old=[]) \/
  ((r.kind=3\/r.kind=4)/\r.next=0/\r.blk=0/\r.off=0/\r.old=[]/\r.new=[]):=hr.2.2.2.2.2.2.2
theorem zagO {b:Bytes} {r:RecM} {k:Nat} (h:getL b=some (r,k)):zZer r/\k=(encM r).length/\encM r=b.take k:=by
 unfold getL at h
 split at h
 ·cases h
 rename_i hl
 split at h
 ·cases h
 rename_i hg
 have g1:¬ (b.length - 18 < gN b):=fun h=>hg (.inl h)
 have g2:¬ (gN b < 17):=fun h=>hg (.inr (.inl h))
 have lb:(gBody b).length=gN b:=z08T _ _ _ (by omega)
 have hB:=zbkT (gBody b) (by omega)
 split at h
 ·rename_i hk
  split at h
  ·cases h
  rename_i h8
  split at h
  ·cases h
  rename_i hm
  have hm:=Decidable.not_not.1 hm
  split at h
  ·rename_i hr
   obtain ⟨rfl,rfl⟩:=Prod.mk.inj (Option.some.inj h)
   have hS:=zFhr (gRest1 b)
   rcases hk with hk | hk
   ·have hu:gUn b:=Decidable.byContradiction (fun hn=>by
     have:gRest1 b=gRest b:=if_neg hn
     rw [this] at h8
     exact hn ⟨hk,by omega⟩)
    have ho:¬ gOl b:=fun ho=>by have:=ho.1;rw [hk] at this;exact absurd this (by decide)
    have eR:gRest1 b=(gRest b).drop 8:=if_pos hu
    have e3:gRest3 b=zdWe b:=if_neg ho
    have e4:gR4 b=⟨sgn (valN (cut b 0 8) 0),valN (cut b 8 4) 0,gKind b,sgn (valN (cut (gBody b) 1 8) 0),sgn (valN (cut (gBody b) 9 8) 0),sgn (valN (cut (gRest b) 0 8) 0),
      valN (cut (gRest1 b) 0 4) 0,valN (cut (gRest1 b) 4 2) 0,[],zdWe b⟩:=by
     unfold gR4 gR3
     rw [if_neg ho,e3]
     unfold gR2 gR1
     rw [if_pos hu]
     rfl
    have hnew:(gR4 b).new≠[]:=fun hn=>by
     rcases zlMr hr with h | h | h
     ·rw [e4] at h;have:=h.1;rw [show (RecM.kind _)=gKind b from rfl,hk] at this;exact absurd this (by decide)
     ·have:=h.2.1.2.2.2.2.1;rw [hn] at this;simp at this
     ·rw [e4] at h;have:=h.1;rw [show (RecM.kind _)=gKind b from rfl,hk] at this;exact absurd this (by decide)
    refine zJul hg hl hr (by rw [e4]) (by rw [e4]) ?_
    rw [zqZB (by rw [e4];exact hk) hnew]
    have q1:=hr.2.2.2.2.1.1
    have q2:=hr.2.2.2.2.2.1.1
    have q3:=hr.2.2.2.2.2.2.1.1
    have l1:(gRest b).length=gN b - 17:=by unfold gRest;rw [List.length_drop,lb]
    have l2:(gRest1 b).length=gN b - 25:=by rw [eR,List.length_drop,l1];omega
    have hu2:=hu.2
    rw [e4] at q1 q2 q3 ⊢
    have w1:=zY50 (gBody b) 1 (by omega) q1
    have w2:=zY50 (gBody b) 9 (by omega) q2
    have w3:=zY50 (gRest b) 0 (by omega) q3
    have w4:=zcYU (gRest1 b) 0 4 (by omega)
    have w5:=zcYU (gRest1 b) 4 2 (by omega)
    have w6:beN (zdWe b).length 2=cut (gRest1 b) 6 2:=by
     rw [e3] at hm
     rw [hm];exact zcYU (gRest1 b) 6 2 (by omega)
    show gKind b :: (beN (sgn (valN (cut (gBody b) 1 8) 0)).toNat 8 ++ (beN (sgn (valN (cut (gBody b) 9 8) 0)).toNat 8 ++ (beN (sgn (valN (cut (gRest b) 0 8) 0)).toNat 8 ++
     (beN (valN (cut (gRest1 b) 0 4) 0) 4 ++ (beN (valN (cut (gRest1 b) 4 2) 0) 2 ++ (beN (zdWe b).length 2 ++ ([] ++ zdWe b)))))))=gBody b
    rw [w1,w2,w3,w4,w5,w6,List.nil_append,show zdWe b=(gRest1 b).drop 8 from rfl,<- hS,eR,show (gRest b).drop 8=(gRest b).drop (0+8) from rfl,zfcg]
    exact hB.symm
   ·have hu:¬ gUn b:=fun hu=>by have:=hu.1;rw [hk] at this;exact absurd this (by decide)
    have eR:gRest1 b=gRest b:=if_neg hu
    have ho:gOl b:=Decidable.byContradiction (fun hn=>by
     have:gRest3 b=zdWe b:=if_neg hn
     rw [this] at hm
     exact hn ⟨hk,by omega⟩)
    have e3:gRest3 b=(zdWe b).drop (gM b):=if_pos ho
    have e4:gR4 b=⟨sgn (valN (cut b 0 8) 0),valN (cut b 8 4) 0,gKind b,sgn (valN (cut (gBody b) 1 8) 0),sgn (valN (cut (gBody b) 9 8) 0),0,
      valN (cut (gRest1 b) 0 4) 0,valN (cut (gRest1 b) 4 2) 0,(zdWe b).take (gM b),(zdWe b).drop (gM b)⟩:=by
     unfold gR4 gR3
     rw [if_pos ho,e3]
     unfold gR2 gR1
     rw [if_neg hu]
     rfl
    have hnew:(gR4 b).new≠[]:=fun hn=>by
     rcases zlMr hr with h | h | h
     ·have:=h.2.2.1.2.2.2.2.1;rw [hn] at this;simp at this
     ·have:=h.2.1.2.2.2.2.1;rw [hn] at this;simp at this
     ·rw [e4] at h;have:=h.1;rw [show (RecM.kind _)=gKind b from rfl,hk] at this;exact absurd this (by decide)
    refine zJul hg hl hr (by rw [e4]) (by rw [e4]) ?_
    rw [zQye (by rw [e4];exact hk) hnew]
    have q1:=hr.2.2.2.2.1.1
    have q2:=hr.2.2.2.2.2.1.1
    have l1:(gRest b).length=gN b - 17:=by unfold gRest;rw [List.length_drop,lb]
    have l2:(gRest1 b).length=gN b - 17:=by rw [eR,l1]
    rw [e4] at q1 q2 ⊢
    have w1:=zY50 (gBody b) 1 (by omega) q1
    have w2:=zY50 (gBody b) 9 (by omega) q2
    have w4:=zcYU (gRest1 b) 0 4 (by omega)
    have w5:=zcYU (gRest1 b) 4 2 (by omega)
    have w6:beN ((zdWe b).drop (gM b)).length 2=cut (gRest1 b) 6 2:=by
     rw [e3] at hm
     rw [hm];exact zcYU (gRest1 b) 6 2 (by omega)
    show gKind b :: (beN (sgn (valN (cut (gBody b) 1 8) 0)).toNat 8 ++ (beN (sgn (valN (cut (gBody b) 9 8) 0)).toNat 8 ++
     (beN (valN (cut (gRest1 b) 0 4) 0) 4 ++ (beN (valN (cut (gRest1 b) 4 2) 0) 2 ++ (beN ((zdWe b).drop (gM b)).length 2 ++ ((zdWe b).take (gM b) ++ (zdWe b).drop (gM b)))))))=gBody b
    rw [w1,w2,w4,w5,w6,List.take_append_drop,show zdWe b=(gRest1 b).drop 8 from rfl,<- hS,eR]
    exact hB.symm
  ·cases h
 ·rename_i hk
  split at h
  ·cases h
  rename_i hz
  have hz1:¬ 0 < (gRest1 b).length:=fun h=>hz (.inl h)
  have hr:zZer (gR1 b):=Decidable.byContradiction (fun h=>hz (.inr h))
  obtain ⟨rfl,rfl⟩:=Prod.mk.inj (Option.some.inj h)
  have hu:¬ gUn b:=fun hu=>hk (.inl hu.1)
  have eR:gRest1 b=gRest b:=if_neg hu
  have e1:gR1 b=gR0 b:=if_neg hu
  rw [e1] at hr ⊢
  have er:(gBody b).drop 17=[]:=by
   have:(gRest b).length=0:=by rw [eR] at hz1;omega
   exact List.length_eq_zero_iff.1 this
  refine zJul hg hl hr rfl rfl ?_
  have q1:0<=sgn (valN (cut (gBody b) 1 8) 0):=hr.2.2.2.2.1.1
  have q2:0<=sgn (valN (cut (gBody b) 9 8) 0):=hr.2.2.2.2.2.1.1
  rw [zGcZ (fun h=>hk (.inl h)) rfl]
  show gKind b :: (beN (sgn (valN (cut (gBody b) 1 8) 0)).toNat 8 ++ beN (sgn (valN (cut (gBody b) 9 8) 0)).toNat 8)=gBody b
  rw [zY50 (gBody b) 1 (by omega) q1,zY50 (gBody b) 9 (by omega) q2]
  rw [er,List.append_nil] at hB
  exact hB.symm
theorem zacl {r:RecM} (hr:zZer r):17<=(bodyM r).length/\(bodyM r).length<=1057:=by
 rcases zlMr hr with h | h | h
 ·have hf:=h.2.2.1
  have f1:=hf.2.2.2.2.1
  have f2:=hf.2.2.2.2.2
  have f3:=hf.2.2.1
  have hn:r.new≠[]:=fun hn=>by rw [hn] at f1;simp at f1
  rw [zQye h.1 hn]
  simp [zmTu]
  omega
 ·have hf:=h.2.1
  have f1:=hf.2.2.2.2.1
  have f2:=hf.2.2.2.2.2
  have f3:=hf.2.2.1
  have hn:r.new≠[]:=fun hn=>by rw [hn] at f1;simp at f1
  rw [zqZB h.1 hn,h.2.2]
  simp [zmTu]
  omega
 ·have hk:r.kind≠2:=fun hk=>by rcases h.1 with h | h<;>rw [hk] at h<;>exact absurd h (by decide)
  rw [zGcZ hk h.2.2.2.2.2]
  simp [zmTu]
theorem zZbR {n:Int} {k:Nat} (h0:0<=n) (h:n < ((256 ^ k:Nat):Int)):((valN (beN n.toNat k) 0:Nat):Int)=n:=by
 rw [z0pR,Nat.mod_eq_of_lt (by omega)]
 omega
theorem zWFD {n:Int} (h:inM n):sgn (valN (beN n.toNat 8) 0)=n:=by
 have h1:=h.1
 have h2:=h.2
 unfold topM at h2
 rw [z0pR,Nat.mod_eq_of_lt (by omega),zfEu (by omega)]
 omega
theorem zzdo {r:RecM} (h1:r.next=0) (h2:r.blk=0) (h3:r.off=0) (h4:r.old=[]) (h5:r.new=[]):(⟨r.lsn,r.turn,r.kind,r.tx,r.prev,0,0,0,[],[]⟩:RecM)=r:=by
 obtain ⟨a,b,c,d,e,f,g,h,i,j⟩:=r
 simp only at h1 h2 h3 h4 h5
 subst h1 h2 h3 h4 h5
 rfl
structure GetF (b:Bytes) (r:RecM):Prop where
 len:18+(bodyM r).length<=b.length
 n:gN b=(bodyM r).length
 bad:¬ gBad b
 body:gBody b=bodyM r
 fit:gKind b=2\/gKind b=1->¬ (gRest1 b).length < 8/\(gRest3 b).length=gM b/\gR4 b=r/\(gKind b=1->gOl b)/\(gKind b=2->gUn b)
 fin:¬ (gKind b=2\/gKind b=1)->(gRest1 b).length=0/\gR1 b=r
theorem getF {b:Bytes} {r:RecM} (hr:zZer r) (h:encM r=b.take (encM r).length):GetF b r:=by
 have hle:=zacl hr
 have hlen:18+(bodyM r).length<=b.length:=by
  have:=congrArg List.length h
  rw [List.length_take,z34p] at this
  omega
 have hE:encM r=b.take (18+(bodyM r).length):=by rw [z34p] at h;exact h
 have e0:encM r=[] ++ (beN r.lsn.toNat 8 ++ (beN r.turn.toNat 4 ++ (beN (bodyM r).length 2 ++ (beN (crcL (headM r ++ bodyM r)) 4 ++ bodyM r)))):=by
  simp [encM,headM]
 have c1:cut b 0 8=beN r.lsn.toNat 8:=by
  rw [<- z1VA b (18+(bodyM r).length) 0 8 (by omega),<- hE,e0]
  exact zDKy _ _ _ _ _ rfl (zmTu _ _)
 have c2:cut b 8 4=beN r.turn.toNat 4:=by
  rw [<- z1VA b (18+(bodyM r).length) 8 4 (by omega),<- hE,e0,List.nil_append]
  exact zDKy _ _ _ _ _ (zmTu _ _) (zmTu _ _)
 have c3:cut b 12 2=beN (bodyM r).length 2:=by
  rw [<- z1VA b (18+(bodyM r).length) 12 2 (by omega),<- hE,e0,List.nil_append,<- List.append_assoc]
  exact zDKy _ _ _ _ _ (by simp [zmTu]) (zmTu _ _)
 have c4:cut b 14 4=beN (crcL (headM r ++ bodyM r)) 4:=by
  rw [<- z1VA b (18+(bodyM r).length) 14 4 (by omega),<- hE,e0,List.nil_append,<- List.append_assoc,<- List.append_assoc]
  exact zDKy _ _ _ _ _ (by simp [zmTu]) (zmTu _ _)
 have c5:cut b 18 (bodyM r).length=bodyM r:=by
  rw [<- z1VA b (18+(bodyM r).length) 18 (bodyM r).length (by omega),<- hE,e0,List.nil_append,<- List.append_assoc,<- List.append_assoc,<- List.append_assoc]
  have:=zDKy (((beN r.lsn.toNat 8 ++ beN r.turn.toNat 4) ++ beN (bodyM r).length 2) ++ beN (crcL (headM r ++ bodyM r)) 4) (bodyM r) [] 18 _ (by simp [zmTu]) rfl
  rwa [List.append_nil] at this
 have c6:b.take 14=headM r:=by
  have t:b.take 14=(b.take (18+(bodyM r).length)).take 14:=by rw [List.take_take,Nat.min_eq_left (by omega)]
  rw [t,<- hE]
  unfold encM
  exact List.take_left' (zM7A r)
 have hn:gN b=(bodyM r).length:=by
  unfold gN
  rw [c3,z0pR,Nat.mod_eq_of_lt (by omega)]
 have hB:gBody b=bodyM r:=by
  unfold gBody
  rw [hn,c5]
 have hbad:¬ gBad b:=by
  rintro (h | h | h)
  ·omega
  ·omega
  ·refine h ?_
   rw [c4,c6,hB,z0pR,Nat.mod_eq_of_lt (z2X7 _)]
 have i1:=hr.1
 have i2:=hr.2.1
 have i3:=hr.2.2.1
 have i4:=hr.2.2.2.1
 have a1:sgn (valN (cut b 0 8) 0)=r.lsn:=by rw [c1];exact zWFD ⟨by omega,i2⟩
 have a2:((valN (cut b 8 4) 0:Nat):Int)=r.turn:=by rw [c2];exact zZbR (by omega) (by omega)
 rcases zlMr hr with h | h | h
 ·obtain ⟨hk,hnx,hf,ho⟩:=h
  have f1:=hf.2.2.2.2.1
  have f2:=hf.2.2.2.2.2
  have f3:=hf.2.2.1
  have hne:r.new≠[]:=fun hn=>by rw [hn] at f1;simp at f1
  have eb:=zQye hk hne
  have b0:bodyM r=[r.kind] ++ (beN r.tx.toNat 8 ++ (beN r.prev.toNat 8 ++ (beN r.blk.toNat 4 ++ (beN r.off.toNat 2 ++ (beN r.new.length 2 ++ (r.old ++ r.new)))))):=eb
  have k1:gKind b=1:=by unfold gKind;rw [hB,eb];exact hk
  have d1:cut (gBody b) 1 8=beN r.tx.toNat 8:=by rw [hB,b0];exact zDKy _ _ _ _ _ rfl (zmTu _ _)
  have d2:cut (gBody b) 9 8=beN r.prev.toNat 8:=by
   rw [hB,b0,<- List.append_assoc];exact zDKy _ _ _ _ _ (by simp [zmTu]) (zmTu _ _)
  have d3:gRest b=beN r.blk.toNat 4 ++ (beN r.off.toNat 2 ++ (beN r.new.length 2 ++ (r.old ++ r.new))):=by
   unfold gRest
   rw [hB,b0,<- List.append_assoc,<- List.append_assoc];exact List.drop_left' (by simp [zmTu])
  have hu:¬ gUn b:=fun hu=>by have:=hu.1;rw [k1] at this;exact absurd this (by decide)
  have eR:gRest1 b=beN r.blk.toNat 4 ++ (beN r.off.toNat 2 ++ (beN r.new.length 2 ++ (r.old ++ r.new))):=by
   rw [<- d3];exact if_neg hu
  have m1:cut (gRest1 b) 0 4=beN r.blk.toNat 4:=by
   rw [eR];exact zDKy [] _ _ _ _ rfl (zmTu _ _)
  have m2:cut (gRest1 b) 4 2=beN r.off.toNat 2:=by
   rw [eR];exact zDKy _ _ _ _ _ (zmTu _ _) (zmTu _ _)
  have m3:cut (gRest1 b) 6 2=beN r.new.length 2:=by
   rw [eR,<- List.append_assoc];exact zDKy _ _ _ _ _ (by simp [zmTu]) (zmTu _ _)
  have hm:gM b=r.new.length:=by unfold gM;rw [m3,z0pR,Nat.mod_eq_of_lt (by omega)]
  have e2:zdWe b=r.old ++ r.new:=by
   unfold zdWe
   rw [eR,<- List.append_assoc,<- List.append_assoc];exact List.drop_left' (by simp [zmTu])
  have hol:gOl b:=⟨k1,by rw [hm,e2,List.length_append];omega⟩
  have e3:gRest3 b=r.new:=by
   have:gRest3 b=(zdWe b).drop (gM b):=if_pos hol
   rw [this,e2,hm];exact List.drop_left' ho
  refine ⟨hlen,hn,hbad,hB,fun _=>⟨?_,?_,?_,fun _=>hol,fun h=>?_⟩,fun h=>absurd (.inr k1) h⟩
  ·rw [eR];simp [zmTu];omega
  ·rw [e3,hm]
  ·unfold gR4 gR3
   rw [if_pos hol,e3,e2,hm,List.take_left' ho]
   unfold gR2 gR1
   rw [if_neg hu]
   unfold gR0
   rw [a1,a2,k1,d1,d2,zWFD hr.2.2.2.2.1,zWFD hr.2.2.2.2.2.1,m1,m2,zZbR hf.1 (by have:=hf.2.1;omega),zZbR f3 (by have:=hf.2.2.2.1;omega),<- hk,<- hnx]
  ·rw [k1] at h;exact absurd h (by decide)
 ·obtain ⟨hk,hf,ho⟩:=h
  have f1:=hf.2.2.2.2.1
  have f2:=hf.2.2.2.2.2
  have f3:=hf.2.2.1
  have hne:r.new≠[]:=fun hn=>by rw [hn] at f1;simp at f1
  have eb:=zqZB hk hne
  have b0:bodyM r=[r.kind] ++ (beN r.tx.toNat 8 ++ (beN r.prev.toNat 8 ++ (beN r.next.toNat 8 ++ (beN r.blk.toNat 4 ++ (beN r.off.toNat 2 ++ (beN r.new.length 2 ++ r.new)))))):=by
   rw [eb,ho];rfl
  have k1:gKind b=2:=by unfold gKind;rw [hB,eb];exact hk
  have d1:cut (gBody b) 1 8=beN r.tx.toNat 8:=by rw [hB,b0];exact zDKy _ _ _ _ _ rfl (zmTu _ _)
  have d2:cut (gBody b) 9 8=beN r.prev.toNat 8:=by
   rw [hB,b0,<- List.append_assoc];exact zDKy _ _ _ _ _ (by simp [zmTu]) (zmTu _ _)
  have d3:gRest b=beN r.next.toNat 8 ++ (beN r.blk.toNat 4 ++ (beN r.off.toNat 2 ++ (beN r.new.length 2 ++ r.new))):=by
   unfold gRest
   rw [hB,b0,<- List.append_assoc,<- List.append_assoc];exact List.drop_left' (by simp [zmTu])
  have d4:cut (gRest b) 0 8=beN r.next.toNat 8:=by
   rw [d3];exact zDKy [] _ _ _ _ rfl (zmTu _ _)
  have hu:gUn b:=⟨k1,by rw [d3];simp [zmTu]⟩
  have eR:gRest1 b=beN r.blk.toNat 4 ++ (beN r.off.toNat 2 ++ (beN r.new.length 2 ++ r.new)):=by
   have:gRest1 b=(gRest b).drop 8:=if_pos hu
   rw [this,d3];exact List.drop_left' (zmTu _ _)
  have m1:cut (gRest1 b) 0 4=beN r.blk.toNat 4:=by
   rw [eR];exact zDKy [] _ _ _ _ rfl (zmTu _ _)
  have m2:cut (gRest1 b) 4 2=beN r.off.toNat 2:=by
   rw [eR];exact zDKy _ _ _ _ _ (zmTu _ _) (zmTu _ _)
  have m3:cut (gRest1 b) 6 2=beN r.new.length 2:=by
   rw [eR,<- List.append_assoc];exact zDKy _ _ _ _ _ (by simp [zmTu]) (zmTu _ _)
  have hm:gM b=r.new.length:=by unfold gM;rw [m3,z0pR,Nat.mod_eq_of_lt (by omega)]
  have e2:zdWe b=r.new:=by
   unfold zdWe
   rw [eR,<- List.append_assoc,<- List.append_assoc];exact List.drop_left' (by simp [zmTu])
  have hol:¬ gOl b:=fun h=>by have:=h.1;rw [k1] at this;exact absurd this (by decide)
  have e3:gRest3 b=r.new:=by
   have:gRest3 b=zdWe b:=if_neg hol
   rw [this,e2]
  refine ⟨hlen,hn,hbad,hB,fun _=>⟨?_,?_,?_,fun h=>?_,fun _=>hu⟩,fun h=>absurd (.inl k1) h⟩
  ·rw [eR];simp [zmTu];omega
  ·rw [e3,hm]
  ·unfold gR4 gR3
   rw [if_neg hol,e3]
   unfold gR2 gR1
   rw [if_pos hu]
   unfold gR0
   rw [a1,a2,k1,d1,d2,d4,zWFD hr.2.2.2.2.1,zWFD hr.2.2.2.2.2.1,zWFD hr.2.2.2.2.2.2.1,m1,m2,zZbR hf.1 (by have:=hf.2.1;omega),zZbR f3 (by have:=hf.2.2.2.1;omega),<- hk,<- ho]
  ·rw [k1] at h;exact absurd h (by decide)
 ·obtain ⟨hk,hnx,hb,hf,ho,hne⟩:=h
  have hk2:r.kind≠2:=fun hk'=>by rcases hk with h | h<;>rw [hk'] at h<;>exact absurd h (by decide)
  have hk1:r.kind≠1:=fun hk'=>by rcases hk with h | h<;>rw [hk'] at h<;>exact absurd h (by decide)
  have eb:=zGcZ hk2 hne
  have b0:bodyM r=[r.kind] ++ (beN r.tx.toNat 8 ++ (beN r.prev.toNat 8 ++ [])):=by rw [eb,List.append_nil];rfl
  have k1:gKind b=r.kind:=by unfold gKind;rw [hB,eb];rfl
  have d1:cut (gBody b) 1 8=beN r.tx.toNat 8:=by rw [hB,b0];exact zDKy _ _ _ _ _ rfl (zmTu _ _)
  have d2:cut (gBody b) 9 8=beN r.prev.toNat 8:=by
   rw [hB,b0,<- List.append_assoc];exact zDKy _ _ _ _ _ (by simp [zmTu]) (zmTu _ _)
  have d3:gRest b=[]:=by
   unfold gRest
   rw [hB,b0,<- List.append_assoc,<- List.append_assoc];exact List.drop_left' (by simp [zmTu])
  have hu:¬ gUn b:=fun hu=>by have:=hu.1;rw [k1] at this;exact hk2 this
  have eR:gRest1 b=[]:=by rw [<- d3];exact if_neg hu
  refine ⟨hlen,hn,hbad,hB,fun h=>?_,fun _=>⟨?_,?_⟩⟩
  ·rw [k1] at h
   rcases h with h | h
   ·exact absurd h hk2
   ·exact absurd h hk1
  ·rw [eR];rfl
  ·unfold gR1
   rw [if_neg hu]
   unfold gR0
   rw [a1,a2,k1,d1,d2,zWFD hr.2.2.2.2.1,zWFD hr.2.2.2.2.2.1]
   exact zzdo hnx hb hf ho hne
theorem z5Tf {b:Bytes} {r:RecM} (hr:zZer r) (h:encM r=b.take (encM r).length):getL b=some (r,(encM r).length):=by
 have F:=getF hr h
 have hl:=F.len
 unfold getL
 rw [if_neg (by omega),if_neg F.bad]
 by_cases hk:gKind b=2\/gKind b=1
 ·obtain ⟨f1,f2,f3,_⟩:=F.fit hk
  rw [if_pos hk,if_neg f1,if_neg (fun h=>h f2),f3,if_pos hr,F.n,z34p]
 ·obtain ⟨f1,f2⟩:=F.fin hk
  rw [if_neg hk,f2,if_neg (fun h=>h.elim (fun h=>by omega) (fun h=>h hr)),F.n,z34p]
end Go.Proofs.YtfgagakepmigbaaGreat
