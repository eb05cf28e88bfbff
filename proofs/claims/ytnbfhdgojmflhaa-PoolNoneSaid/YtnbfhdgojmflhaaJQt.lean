/-
  No statement is proved here.
-/
import Derived.Test.YtnbfhdgojmflhaaJQm
namespace Go.Proofs.Ytnbfhdgojmflhaa
open Go.RowKit
theorem zGMg {D:DevM} {n:Int} {l:Bytes} (hd:D.down=false) (ha:D.armed=0) (h0:0<=n) (h1:n < D.n) (hl:l.length=512):D.write n l=(0,D.put n l):=by
 unfold DevM.write
 have e:(D.put n l).crash=D.put n l:=by unfold DevM.crash DevM.put;simp [ha]
 rw [if_neg (by rw [DevM.mayE_ok hd h0 h1];simp),if_neg (by simp [hl]),e]
 simp [DevM.put,hd,zPhp]
theorem zcsa {D:DevM} (hd:D.down=false) (ha:D.armed=0) (h1:1<=D.n):D.syncR=(0,D.sync):=by
 unfold DevM.syncR
 have e:D.crash=D:=by unfold DevM.crash;simp [ha]
 rw [if_neg (by rw [DevM.mayE_ok hd (Int.le_refl 0) (by omega)];simp),e,hd]
 rfl
theorem z4cH {D:DevM} (b:Int) (pg:Bytes) (ha:D.armed=0) (hd:D.down=false):(D.write b pg).1≠8/\(D.write b pg).2.armed=0/\(D.write b pg).2.down=false:=by
 have hc:(D.put b pg).crash=D.put b pg:=by unfold DevM.crash DevM.put;rw [if_neg (by simp only;omega)]
 unfold DevM.write
 by_cases hm:D.mayE b≠0
 ·rw [if_pos hm]
  refine ⟨?_,ha,hd⟩
  show D.mayE b≠8
  unfold DevM.mayE
  rw [hd]
  simp only [Bool.false_eq_true,if_false]
  split<;>decide
 ·rw [if_neg hm]
  by_cases hl:pg.length≠512
  ·rw [if_pos hl];exact ⟨(by decide:(2:Int)≠8),ha,hd⟩
  ·rw [if_neg hl,hc]
   refine ⟨?_,ha,hd⟩
   show zPhp D.down≠8
   rw [hd];decide
theorem z6p9 {D:DevM} (ha:D.armed=0) (hd:D.down=false):D.syncR.1≠8/\D.syncR.2.armed=0/\D.syncR.2.down=false:=by
 have hc:D.crash=D:=by unfold DevM.crash;rw [if_neg (by omega)]
 unfold DevM.syncR
 by_cases hm:D.mayE 0≠0
 ·rw [if_pos hm]
  refine ⟨?_,ha,hd⟩
  show D.mayE 0≠8
  unfold DevM.mayE
  rw [hd]
  simp only [Bool.false_eq_true,if_false]
  split<;>decide
 ·rw [if_neg hm,hc,hd]
  exact ⟨(by decide:(0:Int)≠8),ha,hd⟩
theorem zeFV (F C T:Int):∀ (f:Nat) (D:DevM) (rest:Bytes) (fst:Int),D.armed=0->D.down=false->(pourM F C T f D rest fst).2≠8/\(pourM F C T f D rest fst).1.armed=0/\(pourM F C T f D rest fst).1.down=false:=by
 intro f
 induction f with
 | zero=>intro D rest fst ha hd;exact ⟨(by decide:(0:Int)≠8),ha,hd⟩
 | succ f ih=>
  intro D rest fst ha hd
  by_cases hr:rest=[]
  ·rw [hr,zJ2j];exact ⟨(by decide:(0:Int)≠8),ha,hd⟩
  ·rw [zVN9 hr]
   by_cases hm:D.mayE (secB F C fst)≠0
   ·rw [if_pos hm]
    refine ⟨?_,ha,hd⟩
    show D.mayE (secB F C fst)≠8
    unfold DevM.mayE
    rw [hd]
    simp only [Bool.false_eq_true,if_false]
    split<;>decide
   ·rw [if_neg hm]
    obtain ⟨Y,hY⟩:∃ Y,Y=fillM T 8 ((D.latest (secB F C fst)).take (secO C fst).toNat ++ zeros (512 - (secO C fst).toNat)) (secO C fst).toNat rest fst:=⟨_,rfl⟩
    rw [<- hY]
    obtain ⟨w1,w2,w3⟩:=z4cH (secB F C fst) Y.1 ha hd
    by_cases hw:(D.write (secB F C fst) Y.1).1≠0
    ·rw [if_pos hw];exact ⟨w1,w2,w3⟩
    ·rw [if_neg hw];exact ih _ _ _ w2 w3
theorem zrlt {L:LogM} {D:DevM} (ha:D.armed=0) (hd:D.down=false):(L.force D).2.2≠8/\(L.force D).2.1.armed=0:=by
 by_cases hs:L.safe=L.fin
 ·rw [zOAL hs];exact ⟨(by decide:(0:Int)≠8),ha⟩
 ·obtain ⟨X,hX⟩:∃ X,X=pourM L.first L.count L.turn (L.tail.length+1) D L.tail L.beg:=⟨_,rfl⟩
  have hv:L.force D=if X.2≠0 then (L,X.1,X.2) else L.forceEnd X.1:=by unfold LogM.force;rw [if_neg hs,<- hX];rfl
  obtain ⟨x1,x2,x3⟩:=zeFV L.first L.count L.turn (L.tail.length+1) D L.tail L.beg ha hd
  rw [<- hX] at x1 x2 x3
  rw [hv]
  by_cases hx:X.2≠0
  ·rw [if_pos hx];exact ⟨x1,x2⟩
  ·rw [if_neg hx]
   obtain ⟨y,hy⟩:∃ y,y=if secO L.count L.fin=0/\secF L.fin=L.fin then X.1.write (secB L.first L.count L.fin) (zeros 512) else (0,X.1):=⟨_,rfl⟩
   have hv2:L.forceEnd X.1=if y.1≠0 then (L,y.2,y.1) else if y.2.syncR.1≠0 then (L,y.2.syncR.2,y.2.syncR.1) else (z5H0 L,y.2.syncR.2,0):=by rw [hy];rfl
   have hyc:y.1≠8/\y.2.armed=0/\y.2.down=false:=by
    rw [hy]
    split
    ·exact z4cH _ _ x2 x3
    ·exact ⟨(by decide:(0:Int)≠8),x2,x3⟩
   obtain ⟨y1,y2,y3⟩:=hyc
   obtain ⟨z1,z2,z3⟩:=z6p9 y2 y3
   rw [hv2]
   by_cases h1:y.1≠0
   ·rw [if_pos h1];exact ⟨y1,y2⟩
   ·rw [if_neg h1]
    by_cases h2:y.2.syncR.1≠0
    ·rw [if_pos h2];exact ⟨z1,z2⟩
    ·rw [if_neg h2];exact ⟨(by decide:(0:Int)≠8),z2⟩
theorem RestS.same {g g':Int->Bytes} {F C T o s:Int} {B:Int->UInt8} (he:∀ n,sx g' F C n=sx g F C n) (h:RestS g F C T o s B):RestS g' F C T o s B:=by
 obtain ⟨⟨a1,a2,a3⟩,⟨s1,s2,s3,s4,s5⟩,st,pa⟩:=h
 refine ⟨⟨fun n=>?_,fun n=>?_,fun n=>?_⟩,⟨fun n h1 h2=>?_,fun n h1 h2=>?_,fun n h1 h2 h3=>?_,fun h1 h2=>?_,?_⟩,?_,fun n h1 h2=>?_⟩
 ·rw [he];exact a1 n
 ·rw [he];exact a2 n
 ·rw [he];exact a3 n
 ·rw [he];exact s1 n h1 h2
 ·rw [he,he];exact s2 n h1 h2
 ·rw [he,he];exact s3 n h1 h2 h3
 ·rw [he];exact s4 h1 h2
 ·rw [he,he];exact s5
 ·rw [he];exact st
 ·rw [he] at h2 ⊢;exact pa n h1 h2
theorem LogI.dev {D D':DevM} {L:LogM} {R:List RecM} {B:Int->UInt8} (h:LogI D L R B) (hn:D'.n=D.n) (hd:D'.down=false) (hl:∀ k,(D'.latest k).length=512) (hs:∀ k,(D'.safeG k).length=512)
  (ho:∀ k,L.first<=k->k < L.first+L.count->D'.latest k=D.latest k/\D'.opn k=none):LogI D' L R B:=by
 have hc:=h.c4
 refine { h with up:=fun a=>?_,nop:=fun k h1 h2=>(ho k h1 h2).2,len:=hl,slen:=hs,rest:=h.rest.same (fun n=>?_) }
 ·have h1:=h.up a
  unfold DevM.mayE at h1 ⊢
  rw [hd,hn]
  by_cases h2:D.down=true
  ·rw [if_pos h2] at h1;exact absurd h1 (by decide)
  ·rw [if_neg h2] at h1
   rw [if_neg (by decide)]
   exact h1
 ·unfold sx
  have h1:=Int.emod_nonneg n (show L.count*8≠0 by omega)
  have h2:=Int.emod_lt_of_pos n (show 0 < L.count*8 by omega)
  rw [(ho (L.first+n % (L.count*8) / 8) (by omega) (by omega)).1]
structure Calm (D:DevM):Prop where
 a:D.armed=0
 d:D.down=false
 n:1<=D.n
theorem Calm.write {D:DevM} (h:Calm D) {b:Int} (h0:0<=b) (h1:b < D.n) {pg:Bytes} (hp:pg.length=512):D.write b pg=(0,D.put b pg):=zGMg h.d h.a h0 h1 hp
theorem Calm.sync {D:DevM} (h:Calm D):D.syncR=(0,D.sync):=zcsa h.d h.a h.n
def zKV1 (L:LogM):LogM:=if L.safe=L.fin then L else z5H0 L
theorem zvn3 (L:LogM):(zKV1 L).first=L.first/\(zKV1 L).count=L.count/\(zKV1 L).turn=L.turn/\(zKV1 L).oldest=L.oldest/\(zKV1 L).fin=L.fin/\(zKV1 L).safe=L.fin/\(zKV1 L).lsns=L.lsns:=by
 unfold zKV1 z5H0
 split
 ·rename_i h;exact ⟨rfl,rfl,rfl,rfl,rfl,h,rfl⟩
 ·exact ⟨rfl,rfl,rfl,rfl,rfl,rfl,rfl⟩
theorem zfHa {D D':DevM} (h:Calm D) (ha:D'.armed=0) (hd:D'.down=false) (hn:D'.n=D.n):Calm D':=⟨ha,hd,by rw [hn];exact h.n⟩
section
variable {D:DevM} {L:LogM} {R:List RecM} {B:Int->UInt8}
theorem zi5U (h:LogI D L R B) (hc:Calm D):∃ D',L.force D=(zKV1 L,D',0)/\Calm D'/\D'.n=D.n/\LogI D' (zKV1 L) R B/\(∀ k,(k < L.first\/L.first+L.count<=k)->D'.latest k=D.latest k) /\
  (L.safe=L.fin/\D'=D\/(∀ k,D'.opn k=none)/\∀ k,(k < L.first\/L.first+L.count<=k)->D'.safeG k=D.latest k):=by
 have c4:=h.c4
 by_cases hs:L.safe=L.fin
 ·refine ⟨D,?_,hc,rfl,?_,fun _ _=>rfl,.inl ⟨hs,rfl⟩⟩
  ·rw [zOAL hs];unfold zKV1;rw [if_pos hs]
  ·unfold zKV1;rw [if_pos hs];exact h
 ·obtain ⟨c1,c2⟩:=zrlt (L:=L) hc.a hc.d
  have hm:zKV1 L=z5H0 L:=by unfold zKV1;rw [if_neg hs]
  rcases ztff h hs with ⟨f1,f2,f3⟩ | ⟨f1,_⟩
  ·rcases (z4dJ (L:=L) (D:=D) (by omega)).1 f1 with ⟨e,_⟩ | ⟨D1,ho,hd,hD⟩
   ·exact absurd e hs
   ·have hn:(L.force D).2.1.n=D.n:=by
     rw [hD]
     show D1.crash.n=D.n
     rw [(z4HA D1).1];exact ho.n
    have hlat:∀ k,(k < L.first\/L.first+L.count<=k)->(L.force D).2.1.latest k=D.latest k:=fun k hk=>by
     rw [hD,zXFu]
     obtain ⟨_,x2,x3⟩:=z4HA D1
     unfold DevM.latest
     rw [x2,x3,ho.out k hk,ho.safe]
    refine ⟨(L.force D).2.1,by rw [hm,<- f2,<- f1],zfHa hc c2 (by rw [hD];exact hd) hn,hn,by rw [hm];exact f3,hlat,.inr ⟨fun k=>by rw [hD];rfl,fun k hk=>?_⟩⟩
    have h2:=hlat k hk
    rw [hD] at h2 ⊢
    rw [zjPi]
    rw [zXFu] at h2
    exact h2
  ·exact absurd f1 c1
end
structure PoolI (P:PoolM) (L:LogM) (D:DevM):Prop where
 f0:0<=P.first
 b1:1<=P.blocks
 fn:P.first+P.blocks<=D.n
 dn:D.n<=65536
 ap:P.first+P.blocks<=L.first\/L.first+L.count<=P.first
 m8:8<=P.most
 m1:P.most<=1024
 len:(P.ring.length:Int)<=P.most
 h0:0<=P.hand
 h1:P.hand<=P.ring.length
 nd:(P.ring.map (·.page)).Nodup
 fr:∀ f∈P.ring,0<=f.page/\f.page < P.blocks/\f.b.length=512/\0<=f.held/\0<=f.last/\f.last < L.fin/\(f.dirty=false->f.b=D.latest (P.first+f.page))/\(f.dirty=true->1<=f.first)
def PoolM.cur (P:PoolM) (D:DevM) (page:Int):Bytes:=match P.ring[P.at page]? with | some f=>f.b | none=>D.latest (P.first+page)
theorem zMbS {P:PoolM} (hnd:(P.ring.map (·.page)).Nodup) {i:Nat} {f:FrM} (h:P.ring[i]?=some f):P.at f.page=i:=by
 obtain ⟨hi,rfl⟩:=List.getElem?_eq_some_iff.1 h
 unfold PoolM.at
 rw [List.findIdx_eq hi]
 refine ⟨by simp,fun j hj=>?_⟩
 have:=List.pairwise_iff_getElem.1 hnd j i (by simp;omega) (by simpa using hi) hj
 simpa using this
theorem zyH5 {P:PoolM} {page:Int} {f:FrM} (h:P.ring[P.at page]?=some f):f.page=page:=by
 obtain ⟨hi,rfl⟩:=List.getElem?_eq_some_iff.1 h
 exact eq_of_beq (List.findIdx_getElem (p:=fun f:FrM=>f.page == page) (xs:=P.ring) (w:=hi))
theorem zfPR {P:PoolM} {page:Int} (h:P.ring[P.at page]?=none):∀ f∈P.ring,f.page≠page:=by
 have h1:=List.getElem?_eq_none_iff.1 h
 intro f hf e
 have:P.at page < P.ring.length:=by
  unfold PoolM.at
  exact List.findIdx_lt_length_of_exists ⟨f,hf,by simpa using e⟩
 omega
theorem zvSy {P:PoolM} {D:DevM} (hnd:(P.ring.map (·.page)).Nodup) {f:FrM} (h:f∈P.ring):P.cur D f.page=f.b:=by
 obtain ⟨i,hi⟩:=List.getElem?_of_mem h
 unfold PoolM.cur
 rw [zMbS hnd hi,hi]
theorem zzzb {P:PoolM} {D:DevM} {page:Int} (h:∀ f∈P.ring,f.page≠page):P.cur D page=D.latest (P.first+page):=by
 unfold PoolM.cur
 cases e:P.ring[P.at page]? with
 | none=>rfl
 | some f=>exact absurd (zyH5 e) (h f (List.mem_of_getElem? e))
theorem zeDU {P:PoolM} {L:LogM} {D:DevM} (h:PoolI P L D) (hl:∀ k,(D.latest k).length=512) (page:Int):(P.cur D page).length=512:=by
 unfold PoolM.cur
 cases e:P.ring[P.at page]? with
 | none=>exact hl _
 | some f=>exact (h.fr f (List.mem_of_getElem? e)).2.2.1
structure Like (P:PoolM) (L:LogM) (D:DevM) (P':PoolM) (L':LogM) (D':DevM):Prop where
 pf:P'.first=P.first
 pb:P'.blocks=P.blocks
 pm:P'.most=P.most
 lf:L'.first=L.first
 lc:L'.count=L.count
 lt:L'.turn=L.turn
 lo:L'.oldest=L.oldest
 fin:L'.fin=L.fin
 safe:L.safe<=L'.safe
 n:D'.n=D.n
 lsns:L'.lsns=L.lsns
theorem Like.refl (P:PoolM) (L:LogM) (D:DevM):Like P L D P L D:=⟨rfl,rfl,rfl,rfl,rfl,rfl,rfl,rfl,Int.le_refl _,rfl,rfl⟩
theorem Like.trans {P P1 P2:PoolM} {L L1 L2:LogM} {D D1 D2:DevM} (h:Like P L D P1 L1 D1) (k:Like P1 L1 D1 P2 L2 D2):Like P L D P2 L2 D2:=
 ⟨k.pf.trans h.pf,k.pb.trans h.pb,k.pm.trans h.pm,k.lf.trans h.lf,k.lc.trans h.lc,k.lt.trans h.lt,k.lo.trans h.lo,k.fin.trans h.fin,Int.le_trans h.safe k.safe,k.n.trans h.n,k.lsns.trans h.lsns⟩
end Go.Proofs.Ytnbfhdgojmflhaa
