/-
  No statement is proved here.
-/
import Derived.Test.YtfgagakepmigbaaGreatJBle
import Derived.Test.YtfgagakepmigbaaGreatJBkt
import Derived.Test.YtfgagakepmigbaaGreatJBkw
namespace Go.Proofs.YtfgagakepmigbaaGreat
open Go.RowKit
section
variable {w w':World} {x:BAdr} {P P' P0:PoolM} {L L' L0:LogM} {D D' D0:DevM} {R R' T:List RecM} {b b0:BkM} {cur was:Int->Bytes} {N:Int}
theorem zc4I {g:Nat} {S:BkA} (h:BookI g S b P L D) (hg:g<=1000000000) (hT:S.inT=false) :
  PointG b P L D/\∃ P' L' D',zmrj b P L D=(b,P',L',D',0)/\BookI (g+1) { S with room:=S.n / 2*408 - 408 } b P' L' D'/\L'.fin=L.fin:=by
 obtain ⟨R,hc,-⟩:=h.rest
 obtain ⟨D1,f1,f2,f3,f4⟩:=zjw6 hc
 obtain ⟨m1,m2,m3,m4,m5,m6,m7⟩:=zvn3 L
 obtain ⟨P2,L2,D2,e1,e2,e3,e4,e5,-,-,-⟩:=zvqe f2
 obtain ⟨m,q1,q2,q3⟩:=h.mas
 have hfin:=h.fin
 have hl2:L2.fin=L.fin:=e4.fin.trans m5
 have hsafe:L2.safe=L2.fin:=by
  have s1:=e4.safe
  obtain ⟨B,hL⟩:=e2.li
  have s2:=hL.sf
  omega
 have hmas:readMas D2=(m,0):=by
  rw [zsJw (e2.calm.d.trans hc.calm.d.symm) (e3.b0.trans f3.b0) (e3.b1.trans f3.b1)];exact q1
 have hro:=hc.room
 obtain ⟨y1,y2,y3,y4,y5,y6⟩:=q2
 have hmay:MasM.may ⟨m.seq+1,m.turn,L2.fin⟩:=by
  refine ⟨by show 1<=m.seq+1;omega,by show m.seq+1<=_;omega,y3,y4,by show 1<=L2.fin;omega,by show L2.fin<=_;omega⟩
 obtain ⟨D3,w1,w2,w3,w4,w5,w6,w7,w8⟩:=zIJ2 e2.calm e2.n24 hmay (fun m' hm'=>by rw [z5tp hmas] at hm';rw [<- hm'];show m.seq < m.seq+1;omega)
 obtain ⟨c1,c2⟩:=zuqq e2 w2 w3 w5 (w8 e2.len) w6
 obtain ⟨L4,t1,t2,t3,t4,t5,t6⟩:=zycp c1 hsafe
 have hn:D3.n=D.n:=w3.trans (e3.n.trans f3.n)
 have hpd:z0Vu L2 D2=(D3,0):=by
  unfold z0Vu
  rw [hmas,if_neg (fun c=>c rfl),if_neg (by show ¬ _ < m.seq+1;omega)]
  exact w1
 refine ⟨⟨hc.g,hc.pi.n,by rw [f1];dsimp only;rw [e1];exact e2.g,by rw [f1];dsimp only;rw [e1];show 2<=D2.n;have:=e2.n24;omega⟩,P2,L4,D3,?_,?_,t3.trans hl2⟩
 ·unfold zmrj
  rw [h.bt,hT,if_neg (by decide),f1]
  dsimp only
  rw [if_neg (fun c=>c rfl),e1]
  dsimp only
  rw [if_neg (fun c=>c rfl),hpd]
  dsimp only
  rw [if_neg (fun c=>c rfl),t1]
 ·have hp:=h.pages
  have hpb:=e4.pb
  refine ⟨hn.trans h.n,h.bt,h.cnt,h.num,fun p z0 z1=>?_,by rw [t4,hn,h.n],by rw [t3,hl2];omega,⟨_,w4,hmay,by show m.seq+1<=_;omega⟩,[],t2,fun hc2=>?_⟩
  ·rw [c2 p z0,e5 p z0 (by rw [hp];exact z1),f4 p z0 (by rw [hp];exact z1)]
   exact h.cur p z0 z1
  ·rw [show ({ S with room:=S.n / 2*408 - 408 }:BkA).inT=S.inT from rfl,hT] at hc2;cases hc2
theorem zXtP {g:Nat} {S:BkA} (h:BookI g S b P L D) (hg:g<=1000000000) :
  (∃ b' P' L' D',zKmR b P L D=(b',P',L',D',S.begin.2)/\BookI (g+1) S.begin.1 b' P' L' D')/\(b.inT=false->L.room < b.count*204->PointG b P L D):=by
 refine ⟨?_,fun hT _=>(zc4I h hg (by rw [<- h.bt];exact hT)).1⟩
 unfold zKmR BkA.begin
 rw [h.bt]
 by_cases hT:S.inT=true
 ·rw [if_pos hT,if_pos hT];exact ⟨b,P,L,D,rfl,h.up (by omega)⟩
 ·rw [if_neg hT,if_neg hT]
  have hT0:S.inT=false:=by simpa using hT
  obtain ⟨P',L',D',e1,e2⟩:∃ P' L' D',zZaF b P L D=(b,P',L',D',0)/\BookI (g+1) { S with room:=if S.room < S.n / 2*204 then S.n / 2*408 - 408 else S.room } b P' L' D':=by
   unfold zZaF
   rw [h.room,h.cnt]
   by_cases c:S.room < S.n / 2*204
   ·rw [if_pos c,if_pos c]
    obtain ⟨-,P',L',D',e1,e2,-⟩:=zc4I h hg hT0
    exact ⟨P',L',D',e1,e2⟩
   ·rw [if_neg c,if_neg c]
    exact ⟨P,L,D,rfl,h.up (by omega)⟩
  rw [e1]
  dsimp only
  rw [if_neg (fun c=>c rfl)]
  obtain ⟨R,hc,-⟩:=e2.rest
  have hro:=hc.room
  have hn:=h.num
  have hrm:=e2.room
  have hpg:=e2.pages
  obtain ⟨B,hL⟩:=hc.li
  have hfm:=hL.fm
  have hnS:L'.room=if S.room < S.n / 2*204 then S.n / 2*408 - 408 else S.room:=hrm
  have hrS:35<=(if S.room < S.n / 2*204 then S.n / 2*408 - 408 else S.room):=by
   have h24:=hc.n24
   have:D'.n=S.n:=e2.n
   rw [this] at h24
   split<;>omega
  refine ⟨_,P',L',D',rfl,e2.n,rfl,e2.cnt,⟨zMa1 (n:=L'.fin) (f:=L'.fin) (by omega) (Int.le_refl _) hfm,by show isI 0;unfold isI;decide,by show (0:Int)<=35;decide,by show (35:Int)<=_;decide,by show ([]:List Int).length<=_;simp⟩,e2.cur,e2.room,e2.fin,e2.mas,R,hc,fun _=>⟨[],⟨by show 0<=L'.fin;omega,by show L'.fin<=L'.fin;omega,by show (0:Int)<=0;omega,by show 0<=L'.fin;omega,rfl,(fun r hr=>by cases hr),(fun r hr=>by cases hr),fun p z0 z1=>?_⟩,rfl,rfl,hrS,rfl⟩⟩
  show P'.cur D' p=S.now p
  exact e2.cur p z0 (by rw [hpg] at z1;exact z1)
theorem zvJ4 {S:BkA} {g:Nat} (h:BkW w x S g) (hg:g<=1000000000):Calls Tryz.prog 18 #[ptrV x.bk] w (APost w x S.begin (g+1)):=by
 obtain ⟨b,P,L,D,h1,h2⟩:=h
 obtain ⟨⟨b',P',L',D',v1,v2⟩,v3⟩:=zXtP h2 hg
 obtain ⟨R,hc,-⟩:=h2.rest
 have hro:=hc.room
 have hcn:=h2.cnt
 have hn:=h2.n
 have h24:=hc.n24
 have h64:=hc.n64
 refine (zrqK h1 hc.g.ok (by rw [hcn];omega) (by omega) v3).mono ?_
 rintro e w' ⟨e1,x',e2,e3⟩
 rw [v1] at e1 e3
 exact ⟨e1,x',e2,b',P',L',D',e3,v2⟩
theorem zh2j {S:BkA} {g:Nat} (h:BkW w x S g) (hg:g<=1000000000) (hT:S.inT=false):Calls Tryz.prog 42 #[ptrV x.bk] w (APost w x ({ S with room:=S.n / 2*408 - 408 },0) (g+1)):=by
 obtain ⟨b,P,L,D,h1,h2⟩:=h
 obtain ⟨v0,P',L',D',v1,v2,-⟩:=zc4I h2 hg hT
 refine (v0.any h1).mono ?_
 rintro e w' ⟨e1,x',e2,e3⟩
 rw [v1] at e1 e3
 exact ⟨e1,x',e2,b,P',L',D',e3,v2⟩
theorem zgJq (hc:CoreI P L D R) (htx:TxI b N L R T cur was) (hf:L.fin<=2999999999999000000) (k:UInt8) (hk:k=3\/k=4):zZer (b.recL L (endR k))/\(encM (b.recL L (endR k))).length=35:=by
 obtain ⟨B,hL⟩:=hc.li
 have q1:=hL.t1
 have q2:=hL.t2
 have q3:=hc.room
 have t0:=htx.tx0
 have t1:=htx.tx1
 have t2:=htx.l0
 have t3:=htx.l1
 refine ⟨⟨by show 1<=L.fin;omega,by show L.fin<=topM;unfold topM;omega,q1,q2,⟨t0,by show b.tx<=topM;unfold topM;omega⟩,⟨t2,by show b.last<=topM;unfold topM;omega⟩,⟨by show (0:Int)<=0;omega,by show (0:Int)<=topM;unfold topM;omega⟩,.inr (.inr ⟨hk,rfl,rfl,rfl,rfl,rfl⟩)⟩,?_⟩
 rw [zeQJ,if_neg (by show ¬ k=2;rcases hk with rfl | rfl<;>decide),if_pos (show (b.recL L (endR k)).new=[] from rfl)]
theorem zGCG {g:Nat} {S:BkA} (h:BookI g S b P L D) (hg:g<=1000000000) :
  (∃ b' P' L' D',zylU b P L D=(b',P',L',D',S.commit.2)/\BookI (g+1) S.commit.1 b' P' L' D'/\(S.inT=true->L'.safe=L'.fin))/\(S.inT=true->(b.app L (endR 3)).2.2=0->LogG (b.app L (endR 3)).2.1):=by
 obtain ⟨R,hc,ht⟩:=h.rest
 by_cases hT:S.inT=true
 ·obtain ⟨T,t1,t2,t3,t4,t5⟩:=ht hT
  have hfin:=h.fin
  obtain ⟨r1,r2⟩:=zgJq hc t1 (by omega) 3 (.inl rfl)
  have hTn:=znu2 T
  have hrm:=h.room
  obtain ⟨L1,a1,a2,a3,a4,a5,a6,a7⟩:=z7aM hc (b.recB (endR 3)) (b.recL L (endR 3)) rfl r1 (by rw [r2];omega) (by omega)
  rw [r2] at a4 a5
  obtain ⟨D1,f1,f2,f3,f4⟩:=zjw6 a2
  obtain ⟨m1,m2,m3,m4,m5,m6,m7⟩:=zvn3 L1
  have happ:b.app L (endR 3)=({ b with last:=L.fin },L1,0):=by
   unfold BkM.app
   rw [a1]
   rfl
  have hbt:b.inT=true:=by rw [h.bt];exact hT
  have hnum:=h.num
  have hp:=h.pages
  refine ⟨⟨{ b with last:=L.fin,inT:=false,done:=[] },P,zKV1 L1,D1,?_,?_,fun _=>m6.trans m5.symm⟩,fun _ _=>by rw [happ];exact a7⟩
  ·unfold zylU BkA.commit
   rw [hbt,hT,if_neg (by decide),happ]
   dsimp only
   rw [if_neg (fun c=>c rfl),f1]
   dsimp only
   rw [if_neg (fun c=>c rfl),if_neg (by decide)]
  ·unfold BkA.commit
   rw [hT,if_neg (by decide)]
   have hro:=hc.room
   refine ⟨f3.n.trans h.n,rfl,h.cnt,⟨hnum.tx,zMa1 (n:=L.fin) (f:=L.fin) (by omega) (by omega) (by omega),hnum.o0,hnum.o1,by show ([]:List Int).length<=_;simp⟩,fun p z0 z1=>?_,?_,?_,?_,R ++ [b.recL L (endR 3)],f2,fun hc2=>by cases hc2⟩
   ·rw [f4 p z0 (by rw [hp];exact z1)];exact h.cur p z0 z1
   ·rw [zCiw,a5,hrm];rfl
   ·rw [m5,a4];omega
   ·obtain ⟨m,x1,x2,x3⟩:=h.mas
    exact ⟨m,by rw [zsJw (f2.calm.d.trans hc.calm.d.symm) f3.b0 f3.b1];exact x1,x2,by omega⟩
 ·have hT0:S.inT=false:=by simpa using hT
  refine ⟨⟨b,P,L,D,?_,?_,fun c=>absurd c hT⟩,fun c=>absurd c hT⟩
  ·unfold zylU BkA.commit
   rw [h.bt,hT0,if_pos rfl,if_pos rfl]
  ·unfold BkA.commit
   rw [hT0,if_pos rfl]
   exact h.up (by omega)
theorem zDJ5 (hc:CoreI P L D R) (hf:L.fin<=2999999999999000000) (b:BkM) (r:RecM) (h:(b.app L r).2.2=0):LogG (b.app L r).2.1:=by
 have hv:∀ x:RecM,L.append x=if ¬ zZer { x with lsn:=L.fin,turn:=L.turn } then (L,0,4) else if L.room < ((encM { x with lsn:=L.fin,turn:=L.turn }).length:Int) then (L,0,5) else ({ L with tail:=L.tail ++ encM { x with lsn:=L.fin,turn:=L.turn },lsns:=L.lsns ++ [L.fin],fin:=L.fin+(encM { x with lsn:=L.fin,turn:=L.turn }).length },L.fin,0):=fun _=>rfl
 obtain ⟨B,hL⟩:=hc.li
 by_cases h1:zZer { b.recB r with lsn:=L.fin,turn:=L.turn }
 ·by_cases h2:L.room < ((encM { b.recB r with lsn:=L.fin,turn:=L.turn }).length:Int)
  ·have:L.append (b.recB r)=(L,0,5):=by rw [hv,if_neg (fun c=>c h1),if_pos h2]
   unfold BkM.app at h
   rw [this] at h
   exact absurd (show (5:Int)=0 from h) (by decide)
  ·obtain ⟨a1,B',a2⟩:=zK9R hL (b.recB r) h1 h2 hf
   unfold BkM.app
   rw [a1]
   exact a2.g
 ·have:L.append (b.recB r)=(L,0,4):=by rw [hv,if_pos h1]
  unfold BkM.app at h
  rw [this] at h
  exact absurd (show (4:Int)=0 from h) (by decide)
theorem zlbX {S:BkA} {g:Nat} (h:BkW w x S g) (hg:g<=1000000000):Calls Tryz.prog 20 #[ptrV x.bk] w (APost w x S.commit (g+1)):=by
 obtain ⟨b,P,L,D,h1,h2⟩:=h
 obtain ⟨⟨b',P',L',D',v1,v2,-⟩,-⟩:=zGCG h2 hg
 obtain ⟨R,hc,-⟩:=h2.rest
 have hfin:=h2.fin
 refine (zWgQ h1 hc.g h2.num.tx h2.num.last (zDJ5 hc (by omega) b (endR 3))).mono ?_
 rintro e w' ⟨e1,x',e2,e3⟩
 rw [v1] at e1 e3
 exact ⟨e1,x',e2,b',P',L',D',e3,v2⟩
structure AbS (P0:PoolM) (L0:LogM) (D0:DevM) (b0:BkM) (owes:Int) (was:Int->Bytes) (n:Nat) (b:BkM) (P:PoolM) (L:LogM) (D:DevM) (R T:List RecM):Prop where
 c:CoreI P L D R
 k:CoreK P0 L0 D0 P L D
 bl:P.blocks=P0.blocks
 tx:TxI b P0.blocks L R T (P.cur D) was
 inT:b.inT=true
 cnt:b.count=b0.count
 ow:b.owed=b0.owed
 room:L.room=L0.room - (owes - owesM T)
 nT:T.length=n
 tt:b.tx=b0.tx
theorem zzNr {owes:Int} {n:Nat} {r:RecM} (hfin:L0.fin<=2000000000000000000) (hL0:L0.fin=L0.oldest+(408*(D0.n / 2) - 408) - L0.room/\L0.oldest<=L0.fin) (hroom:35+owes<=L0.room) (how:owesM T<=owes) (h:AbS P0 L0 D0 b0 owes was (n+1) b P L D R T) (hr:(L.read D (b.done.getD n 0)).1=some r) :
  L.read D (b.done.getD n 0)=(some r,0)/\(b.chg P L D (backR r (nxM b n))).2.2.2.2=0/\r.old≠[]/\r.old.length<=1000000/\RecOk (backR r (nxM b n))/\((b.app L (backR r (nxM b n))).2.2=0->LogG (b.app L (backR r (nxM b n))).2.1) /\
   ∃ R' T',owesM T'<=owes/\AbS P0 L0 D0 b0 owes was n { (b.chg P L D (backR r (nxM b n))).1 with done:=b.done.take n } (b.chg P L D (backR r (nxM b n))).2.1 (b.chg P L D (backR r (nxM b n))).2.2.1 (b.chg P L D (backR r (nxM b n))).2.2.2.1 R' T':=by
 have hc:=h.c
 have htx:=h.tx
 cases hTT:T with
 | nil=>have:=h.nT;rw [hTT] at this;simp at this
 | cons t T'=>
  subst hTT
  have hlen:T'.length=n:=by have:=h.nT;simpa using this
  have hdone:b.done=(T'.map (·.lsn)).reverse ++ [t.lsn]:=by rw [htx.done];simp
  have hget:b.done.getD n 0=t.lsn:=by
   rw [hdone,List.getD_eq_getElem?_getD,List.getElem?_append_right (by simp [hlen])]
   simp [hlen]
  obtain ⟨B,hL⟩:=hc.li
  have hrd:=(htx.has t (List.mem_cons_self ..)).read hL
  rw [<- hget] at hrd
  have ert:r=t:=by rw [hrd] at hr;exact (Option.some.inj hr).symm
  subst ert
  obtain ⟨⟨f1,f2,f3,f4,f5,f6⟩,o2,o3,o4,o5⟩:=htx.ok r (List.mem_cons_self ..)
  have hfl:=hc.room
  have hkn:=h.k.n
  have hko:=h.k.o
  have hrm:=h.room
  have hne:r.old≠[]:=by intro e;rw [e] at o2;simp at o2;omega
  have ht0:=htx.tx0
  have ht1:=htx.tx1
  have hl0:=htx.l0
  have hl1:=htx.l1
  have how1:owesM (r :: T')=51+(r.new.length:Int)+owesM T':=rfl
  have hTn:=znu2 T'
  rw [how1] at hrm how
  have hn64:=hc.n64
  have hLf:L.fin<=2000000000013369344:=by omega
  have hnx:0<=nxM b n/\nxM b n<=L.fin:=by
   unfold nxM
   by_cases c:n=0
   ·rw [if_pos c];omega
   ·rw [if_neg c]
    cases hT2:T' with
    | nil=>rw [hT2] at hlen;simp at hlen;omega
    | cons u T2=>
     have hu:=htx.ok u (by rw [hT2];simp)
     have e:b.done.getD (n - 1) 0=u.lsn:=by
      have hlen2:T2.length=n - 1:=by rw [hT2] at hlen;simp at hlen;omega
      rw [hdone,hT2,List.map_cons,List.reverse_cons,List.getD_eq_getElem?_getD,List.getElem?_append_left (by simp [hlen2]),List.getElem?_append_right (by simp [hlen2])]
      simp [hlen2]
     rw [e]
     exact ⟨by have:=hu.2.2.2.1;omega,hu.2.2.2.2⟩
  obtain ⟨q,hq⟩:∃ q,q=backR r (nxM b n):=⟨_,rfl⟩
  have q1:q.kind=2:=by rw [hq];rfl
  have q3:q.blk=r.blk:=by rw [hq];rfl
  have q4:q.off=r.off:=by rw [hq];rfl
  have q5:q.old=[]:=by rw [hq];rfl
  have q6:q.new=r.old:=by rw [hq];rfl
  have q7:q.next=nxM b n:=by rw [hq];rfl
  have t1':=hL.t1
  have t2':=hL.t2
  have hn64:=hc.n64
  have hright:zZer (b.recL L q):=by
   refine ⟨by show 1<=L.fin;omega,by show L.fin<=topM;unfold topM;omega,t1',t2',⟨ht0,by show b.tx<=topM;unfold topM;omega⟩,⟨hl0,by show b.last<=topM;unfold topM;omega⟩,⟨by show 0<=q.next;omega,by show q.next<=topM;unfold topM;omega⟩,.inr (.inl ⟨q1,?_,q5⟩)⟩
   show 0<=q.blk/\q.blk < 65536/\0<=q.off/\q.off < 512/\1<=q.new.length/\(q.new.length:Int)<=512 - q.off
   rw [q3,q4,q6,o2]
   exact ⟨f1,f2,f3,f4,f5,f6⟩
  have hsz:((encM (b.recL L q)).length:Int)=51+(r.new.length:Int):=by
   rw [zeQJ,if_pos (show (b.recL L q).kind=2 from q1),if_neg (by show ¬ q.new=[];rw [q6];exact hne)]
   show ((35+8+(8+q.old.length+q.new.length):Nat):Int)=_
   rw [q5,q6,o2];simp;omega
  have hrec:RecOk q:=by
   have z0:isI 0:=by unfold isI;decide
   rw [hq]
   refine ⟨z0,z0,z0,z0,?_,?_,?_⟩
   ·show isI (nxM b n);unfold isI;omega
   ·show isI r.blk;unfold isI;omega
   ·show isI r.off;unfold isI;omega
  obtain ⟨P',L',D',c1,c2,c3,c4,c5,c6,c7,c8⟩:=zz88 hc b q hright (.inr q1) (by rw [hsz];omega) (by omega) (by rw [q3,h.bl];exact o3)
  rw [hq] at c1 c8 hrec
  have hlf:L.fin<=L'.fin:=by
   have y1:=c2.room
   have y2:=c3.o
   have y3:=c3.n
   rw [c6,hsz] at y1
   omega
  have htk:b.done.take n=(T'.map (·.lsn)).reverse:=by
   rw [hdone,List.take_append_of_le_length (by simp [hlen]),List.take_of_length_le (by simp [hlen])]
  refine ⟨hrd,by rw [c1],hne,by omega,hrec,c8,R ++ [b.recL L q],T',by omega,?_⟩
  rw [c1]
  dsimp only
  refine ⟨c2,h.k.trans c3,c4.trans h.bl,⟨ht0,by show b.tx<=_;omega,by show 0<=L.fin;omega,hlf,htk,fun z hz=>(htx.has z (List.mem_cons_of_mem _ hz)).snoc hc.lsnsLen c7,fun z hz=>?_,fun p z0 z1=>?_⟩,h.inT,h.cnt,h.ow,by rw [c6,hsz,hrm];omega,hlen,h.tt⟩
  ·obtain ⟨z1,z2,z3,z4,z5⟩:=htx.ok z (List.mem_cons_of_mem _ hz)
   exact ⟨z1,z2,z3,z4,by omega⟩
  ·rw [<- htx.und p z0 z1]
   show undoAll T' (P'.cur D') p=undoAll T' (bwdR r (P.cur D)) p
   refine zVL5 T' (N:=P0.blocks) (fun z y0 y1=>?_) p z0 z1
   rw [c5 z y0 (by rw [h.bl];exact y1)]
   unfold fwdR bwdR
   rw [q3,q4,q6]
theorem zzJR {owes:Int} (hfin:L0.fin<=2000000000000000000) (hL0:L0.fin=L0.oldest+(408*(D0.n / 2) - 408) - L0.room/\L0.oldest<=L0.fin) (hroom:35+owes<=L0.room) :
  ∀ (n:Nat) {b:BkM} {P:PoolM} {L:LogM} {D:DevM} {R T:List RecM},owesM T<=owes->AbS P0 L0 D0 b0 owes was n b P L D R T->∃ b' P' L' D' R' T',undoM n b P L D=(b',P',L',D',0)/\AbS P0 L0 D0 b0 owes was 0 b' P' L' D' R' T'
 | 0,b,P,L,D,R,T,_,h=>⟨b,P,L,D,R,T,rfl,h⟩
 | n+1,b,P,L,D,R,T,how,h=>by
  have hrd:∃ r,(L.read D (b.done.getD n 0)).1=some r:=by
   obtain ⟨B,hL⟩:=h.c.li
   cases hTT:T with
   | nil=>have:=h.nT;rw [hTT] at this;simp at this
   | cons t T'=>
    subst hTT
    have hlen:T'.length=n:=by have:=h.nT;simpa using this
    have hget:b.done.getD n 0=t.lsn:=by
     rw [h.tx.done,List.map_cons,List.reverse_cons,List.getD_eq_getElem?_getD,List.getElem?_append_right (by simp [hlen])]
     simp [hlen]
    rw [hget,(h.tx.has t (List.mem_cons_self ..)).read hL]
    exact ⟨_,rfl⟩
  obtain ⟨r,hr⟩:=hrd
  obtain ⟨a1,a2,_,_,_,_,R',T',a7,a8⟩:=zzNr hfin hL0 hroom how h hr
  obtain ⟨b',P',L',D',R2,T2,e1,e2⟩:=zzJR hfin hL0 hroom n a7 a8
  refine ⟨b',P',L',D',R2,T2,?_,e2⟩
  show (match (L.read D (b.done.getD n 0)).1 with
   | none=>_
   | some r=>_)=_
  rw [hr]
  dsimp only
  rw [if_neg (fun c=>c a2)]
  exact e1
theorem zN87 {g:Nat} {S:BkA} (h:BookI g S b P L D) (hg:g<=1000000000) :
  (∃ b' P' L' D',zcT1 b P L D=(b',P',L',D',S.abort.2)/\BookI (g+1) S.abort.1 b' P' L' D')/\(∃ J,AbJ J/\(b.inT=true->J b.done.length b P L D)):=by
 obtain ⟨R,hc,ht⟩:=h.rest
 have hfin:=h.fin
 have hro:=hc.room
 have hfin2:L.fin<=2000000000000000000:=by omega
 by_cases hT:S.inT=true
 ·obtain ⟨T,t1,t2,t3,t4,t5⟩:=ht hT
  have hTn:=znu2 T
  have hrm:=h.room
  have hbt:b.inT=true:=by rw [h.bt];exact hT
  have hroom:35+owesM T<=L.room:=by omega
  have h0:AbS P L D b (owesM T) S.was T.length b P L D R T:=⟨hc,.refl _ _ _,rfl,t1,hbt,rfl,rfl,by omega,rfl,rfl⟩
  refine ⟨?_,fun n b' P' L' D'=>∃ R' T',owesM T'<=owesM T/\AbS P L D b (owesM T) S.was n b' P' L' D' R' T',⟨?_,?_,?_,?_⟩,fun _=>⟨R,T,Int.le_refl _,by rw [t1.len];exact h0⟩⟩
  ·obtain ⟨b1,P1,L1,D1,R1,T1,e1,e2⟩:=zzJR hfin2 ⟨hro.2.2.1,hro.2.2.2.2⟩ hroom T.length (Int.le_refl _) h0
   have hT1:T1=[]:=List.length_eq_zero_iff.1 e2.nT
   subst hT1
   have hro1:=e2.c.room
   have hko:=e2.k.o
   have hkn:=e2.k.n
   have hrm1:L1.room=L.room - (owesM T - 0):=e2.room
   obtain ⟨r1,r2⟩:=zgJq e2.c e2.tx (by omega) 4 (.inr rfl)
   obtain ⟨L2,a1,a2,a3,a4,a5,a6,a7⟩:=z7aM e2.c (b1.recB (endR 4)) (b1.recL L1 (endR 4)) rfl r1 (by rw [r2];omega) (by omega)
   rw [r2] at a4 a5
   have happ:b1.app L1 (endR 4)=({ b1 with last:=L1.fin },L2,0):=by
    unfold BkM.app
    rw [a1]
    rfl
   have hp:=h.pages
   refine ⟨{ b1 with last:=L1.fin,inT:=false,done:=[] },P1,L2,D1,?_,?_⟩
   ·unfold zcT1 BkA.abort
    rw [hbt,hT,if_neg (by decide),if_neg (by decide),t1.len,e1]
    unfold z9cn
    dsimp only
    rw [if_neg (fun c=>c rfl),happ]
    dsimp only
    rw [if_neg (fun c=>c rfl)]
   ·unfold BkA.abort
    rw [hT,if_neg (by decide)]
    have hnum:=h.num
    refine ⟨e2.k.n.trans h.n,rfl,e2.cnt.trans h.cnt,⟨by rw [show ({ b1 with last:=L1.fin,inT:=false,done:=[] }:BkM).tx=b1.tx from rfl,e2.tt];exact hnum.tx,zMa1 (n:=L1.fin) (f:=L1.fin) (by omega) (by omega) (by omega),by show 0<=b1.owed;rw [e2.ow];exact hnum.o0,by show b1.owed<=_;rw [e2.ow];exact hnum.o1,by show ([]:List Int).length<=_;simp⟩,fun p z0 z1=>?_,?_,?_,?_,R1 ++ [b1.recL L1 (endR 4)],a2,fun hc2=>by cases hc2⟩
    ·have:=e2.tx.und p z0 (by rw [hp];exact z1)
     exact this
    ·show L2.room=S.room - S.owed
     rw [a5,hrm1,hrm,t3];omega
    ·rw [a4];omega
    ·obtain ⟨m,x1,x2,x3⟩:=h.mas
     exact ⟨m,by rw [zsJw (a2.calm.d.trans hc.calm.d.symm) e2.k.b0 e2.k.b1];exact x1,x2,by omega⟩
  ·rintro n b' P' L' D' ⟨R',T',-,hS⟩
   rw [hS.tx.len,hS.nT]
  ·rintro n b' P' L' D' ⟨R',T',-,hS⟩
   obtain ⟨B,hL⟩:=hS.c.li
   have h6:=hL.fm
   exact ⟨hS.c.bkg,zMa1 hS.tx.tx0 hS.tx.tx1 h6,zMa1 hS.tx.l0 hS.tx.l1 h6⟩
  ·rintro n b' P' L' D' r ⟨R',T',how,hS⟩ hr
   obtain ⟨_,_,a3,a4,a5,a6,_⟩:=zzNr hfin2 ⟨hro.2.2.1,hro.2.2.2.2⟩ hroom how hS hr
   exact ⟨a3,a4,a5,a6⟩
  ·rintro n b' P' L' D' r ⟨R',T',how,hS⟩ hr _
   exact (zzNr hfin2 ⟨hro.2.2.1,hro.2.2.2.2⟩ hroom how hS hr).2.2.2.2.2.2
 ·have hT0:S.inT=false:=by simpa using hT
  refine ⟨⟨b,P,L,D,?_,?_⟩,fun _ _ _ _ _=>False,⟨fun _ _ _ _ _ h=>h.elim,fun _ _ _ _ _ h=>h.elim,fun _ _ _ _ _ _ h=>h.elim,fun _ _ _ _ _ _ h=>h.elim⟩,fun c=>by rw [h.bt,hT0] at c;cases c⟩
  ·unfold zcT1 BkA.abort
   rw [h.bt,hT0,if_pos rfl,if_pos rfl]
  ·unfold BkA.abort
   rw [hT0,if_pos rfl]
   exact h.up (by omega)
theorem zslo {S:BkA} {g:Nat} (h:BkW w x S g) (hg:g<=1000000000):Calls Tryz.prog 22 #[ptrV x.bk] w (APost w x S.abort (g+1)):=by
 obtain ⟨b,P,L,D,h1,h2⟩:=h
 obtain ⟨⟨b',P',L',D',v1,v2⟩,J,v3,v4⟩:=zN87 h2 hg
 refine (zFGp h1 J v3 v4 h2.num.dl).mono ?_
 rintro e w' ⟨e1,x',e2,e3⟩
 rw [v1] at e1 e3
 exact ⟨e1,x',e2,b',P',L',D',e3,v2⟩
end
section
variable {w w' w1:World} {p ms mo:Nat} {D D':DevM} {P:PoolM} {L:LogM} {a:Adr}
def bkNew (n:Int):BkM:=⟨false,0,0,[],0,n⟩
theorem bBk (u v z:Option Addr) (n:Int) (wz:World):(Instr.build 30 #[(0,.pointer u),(1,.pointer v),(2,.pointer z),(8,.int .i64 n)]).run Tryz.prog wz=.ok (.agg #[.pointer u,.pointer v,.pointer z,.bool false,.int .i64 0,.int .i64 0,.slice none 0 0,.int .i64 0,.int .i64 n]) wz:=run_build wz _ _ _ (by kernel_rfl)
theorem zNFO (h:PoolS w a P L D) (hn:2<=D.n) (hm:(readMas D).2=0) (hf:L.fin≠0) (hp:P.blocks≠0) (hq:P.blocks=(zO5o D.n).2.1) :
  Calls Tryz.prog 78 #[ptrV a.p,ptrV a.q,ptrV a.pb] w fun e w'=>∃ bk,e=.returned (ptrV bk)/\Kept (fun _=>False) w w'/\w.heap.size<=bk/\BookS w' ⟨a,bk,.slice none 0 0⟩ (bkNew (zO5o D.n).2.2.2) P L D:=by
 have HR:=qh (zH0r h.log.dev hn)
 have HB:=qh (fun (w':World) (hk:Kept (fun _=>False) w w')=>zyYd (h.log.dev.keep hk id id id))
 have HE:=qh (fun (w':World) (hk:Kept (fun _=>False) w w')=>z4JP w' a.q a.p a.lv a.tv L (h.keep hk (fun _ _=>id)).log.hq)
 have HPG:=qh (fun (w':World) (hk:Kept (fun _=>False) w w')=>z0Q4 (h.keep hk (fun _ _=>id)))
 have H:=qh h
 obtain ⟨V,hV⟩:∃ V,V=readMas D:=⟨_,rfl⟩
 rw [<- hV] at HR hm
 obtain ⟨m,n⟩:=V
 dsimp only at HR hm
 subst hm
 obtain ⟨N,hN⟩:∃ N,N=D.n:=⟨_,rfl⟩
 rw [<- hN] at HB hq ⊢
 have HBB:=bBk
 obtain ⟨lf,hlf⟩:∃ lf,lf=L.fin:=⟨_,rfl⟩
 rw [<- hlf] at HE hf
 obtain ⟨pbs,hpbs⟩:∃ pbs,pbs=P.blocks:=⟨_,rfl⟩
 rw [<- hpbs] at HPG hp hq
 have hf1:(lf == 0)=false:=by rw [beq_eq_false_iff_ne];exact hf
 have hp1:(pbs == 0)=false:=by rw [beq_eq_false_iff_ne];exact hp
 have HPL:=qh (zdOx N)
 obtain ⟨Q,hQ⟩:∃ Q,Q=zO5o N:=⟨_,rfl⟩
 rw [<- hQ] at hq HPL ⊢
 obtain ⟨q1,q2,q3,q4⟩:=Q
 dsimp only at hq HPL ⊢
 subst hq
 unfold ptrV at HPG ⊢
 clear h hN hn hV hf hp hlf hpbs hQ
 go_enter Tryz.func78,Tryz.ntmps78
 go_wp2_with fail
 refine HR.out.mono ?_
 rintro e w1 ⟨rfl,hk1⟩
 have HK1:=qh hk1
 clear hk1 HR
 go_wp2_with (refine zNko rfl 103 rfl (masC zM) z1iB ?_)
 intro pr w2 l2 m2 hb2 hk2
 have HP2:=qh hb2
 have HK2:=qh (HK1.out.trans0 hk2)
 have HL2:=qh (show w.heap.size<=pr from Nat.le_trans HK1.out.size l2)
 clear hb2 hk2 l2 m2
 go_wp2_with (refine zxQF rfl 103 _ _ rfl pr (masC m) (masC zM) rfl rfl HP2.out zapW rfl (z6IM _) ?_)
 intro w3 hb3 hk3
 have HK3:=qh (HK2.out.new hk3 (fun z hz=>by subst hz;exact HL2.out))
 clear hb3 hk3
 go_wp2_with fail
 refine (HB.out w3 HK3.out).mono ?_
 rintro e wx ⟨rfl,rfl⟩
 go_wp2_with fail
 refine (HPL.out w3).mono ?_
 rintro e wx ⟨rfl,rfl⟩
 go_wp2_with fail
 refine (HE.out w3 HK3.out).mono ?_
 rintro e wx ⟨rfl,rfl⟩
 go_wp2_with fail
 refine (HPG.out w3 HK3.out).mono ?_
 rintro e wx ⟨rfl,rfl⟩
 go_wp2_with fail
 refine (HPG.out w3 HK3.out).mono ?_
 rintro e wx ⟨rfl,rfl⟩
 go_wp2_with (refine znBH rfl 30 _ rfl (.agg #[.pointer (some ⟨a.p,0,none⟩),.pointer (some ⟨a.q,0,none⟩),.pointer (some ⟨a.pb,0,none⟩),.bool false,.int .i64 0,.int .i64 0,.slice none 0 0,.int .i64 0,.int .i64 q4]) rfl ?_)
 intro bk w4 l4 m4 hb4 hk4
 have HB4:=qh (show w4.heap[bk]?=some (.cells (bookC ⟨a,bk,.slice none 0 0⟩ (bkNew q4)) 30 (0,0)) from hb4)
 have HK4:=qh (HK3.out.trans0 hk4)
 have HL4:=qh (show w.heap.size<=bk from Nat.le_trans HK3.out.size l4)
 clear hb4 hk4 l4 m4
 go_wp2
 go_ret
 exact ⟨bk,rfl,HK4.out,HL4.out,⟨H.out.keep HK4.out (fun _ _=>id),HB4.out,LsV.nil _ _,fun z hz=>by cases hz⟩⟩
end
def newL (F C T:Int):LogM:=⟨F,C,T,1,1,1,[],[],1⟩
theorem zX6x {D:DevM} (hc:Calm D) {F C T:Int} (hb:¬ badM D.n F C 1 T) (hf:F<=65536) (hC:C<=65536) (hz:∀ k,F<=k->k < F+C->D.latest k=zeros 512) (ho:∀ k,F<=k->k < F+C->D.opn k=none) (hl:∀ k,(D.latest k).length=512) (hs:∀ k,(D.safeG k).length=512) :
  openM D F C 1 T=(some (newL F C T),D,0)/\(zoel D F C T (C*408 - 408).toNat ((C*408 - 408).toNat+1) 1 0 []).1.length<=1000000/\LogI D (newL F C T) [] (fun _=>0):=by
 unfold badM at hb
 have hC4:4<=C:=by omega
 have hsx:∀ n,sx D.latest F C n=zeros 64:=fun n=>by
  have:=zQhx n (C:=C) (by omega)
  unfold sx
  rw [hz _ (by omega) (by omega),ze00 (by omega)]
 have hup:∀ a,D.mayE (secB F C a)=0:=fun a=>by
  have:=zQhx ((a - 1) / 51) (C:=C) (by omega)
  exact DevM.mayE_ok hc.d (by unfold secB;omega) (by unfold secB;omega)
 have hA:AreaS D.latest F C T:=⟨fun n=>by rw [hsx];exact zrlC 64,fun n=>by rw [hsx,zMf0];exact .inl (Int.le_refl 0),fun n=>by rw [hsx,z3Ba];omega⟩
 have hR:RestS D.latest F C T 1 1 (fun _=>0):=by
  refine ⟨hA,⟨fun n a b=>by omega,fun n a b=>by omega,fun n a b c=>absurd (by decide) c,fun a=>absurd a (by decide),?_⟩,?_,fun n a b=>?_⟩
  ·left;rw [hsx,zMf0];decide
  ·left;rw [hsx,zMf0];decide
  ·rw [hsx,zMf0] at b;omega
 have hp1:secP D F C 1=zeros 64:=by rw [zY85,hsx]
 have hch:zoel D F C T (C*408 - 408).toNat ((C*408 - 408).toNat+1) 1 0 []=([],0):=by
  rw [zrKy (hup 1) (by rw [hp1,zIiy,zMf0];exact .inl (by decide))]
  simp
 refine ⟨?_,by rw [hch];decide,?_⟩
 ·unfold openM
  rw [if_neg (by omega),if_neg (by omega)]
  dsimp only
  rw [hch]
  dsimp only
  rw [if_neg (by decide)]
  have hsc:scanM T [] (([]:Bytes).length+1) 0 1 0 []=([],1,0):=by
   unfold scanM
   rw [show getL (([]:Bytes).drop 0)=none from by decide +kernel]
  rw [hsc]
  dsimp only
  have hbg:(LogM.begin ⟨F,C,T,1,1,1,[],[],0⟩ D)=(newL F C T,0):=by
   unfold LogM.begin
   dsimp only
   rw [show ((1:Int) - secF 1).toNat=0 from by decide,zGhU (by simp)]
   rfl
  rw [hbg]
  dsimp only
  rw [if_neg (by decide)]
  have hst:(newL F C T).stale D=(false,0):=by
   unfold LogM.stale newL
   dsimp only
   rw [if_neg (by decide),if_neg (by rw [hup 1];decide),hp1,show sgn (valN (cut (zeros 64) 0 8) 0)=0 from zMf0]
   rfl
  rw [hst]
  dsimp only
  rw [if_neg (by decide),if_neg (by simp)]
 ·exact { up:=hup,nop:=ho,len:=hl,slen:=hs,f0:=by show 0<=F;omega,f1:=hf,c4:=hC4,c1:=hC,t1:=by show 1<=T;omega,t2:=by show T < _;omega,o1:=by show (1:Int)<=1;omega,so:=by show (1:Int)<=1;omega,sf:=by show (1:Int)<=1;omega,fm:=by show (1:Int)<=_;omega,room:=by show (1:Int) - 1<=408*(C - 1);omega,rest:=hR,beg:=rfl,tail:=⟨rfl,fun i hi=>by simp [newL] at hi⟩,recs:=trivial,lsns:=rfl,flat:=rfl,sb:=⟨0,Nat.le_refl _,rfl⟩ }
def zT5q (n:Int):BkA:=⟨n,fun _=>zeros 512,fun _=>zeros 512,false,n / 2*408 - 408,0,0⟩
theorem zy84 {D:DevM} (hc:Calm D) {n T frames:Int} (hn:D.n=n) (n0:24<=n) (n1:n<=65536) (hl:LogI D (newL (n - n / 2) (n / 2) T) [] (fun _=>0)) (hz:∀ k,2<=k->k < n->D.latest k=zeros 512) {m:MasM} (hm:readMas D=(m,0)) (h1:m.may) (h2:m.seq<=10) (f0:8<=frames) (f1:frames<=1024) :
  BookI 0 (zT5q n) (bkNew (n / 2)) (zVHS 2 (n - 2 - n / 2) frames) (newL (n - n / 2) (n / 2) T) D:=by
 have z0:isI 0:=by unfold isI;decide
 refine ⟨hn,rfl,rfl,⟨z0,z0,by show (0:Int)<=0;decide,by show (0:Int)<=_;decide,by show ([]:List Int).length<=_;simp⟩,fun p p0 p1=>?_,?_,by show (1:Int)<=_;omega,⟨m,hm,h1,by omega⟩,[],⟨⟨_,hl⟩,?_,hc,fun p=>zjuv (fun f hf=>by cases hf),rfl,?_,?_,?_,by omega,by omega⟩,fun h=>by cases h⟩
 ·show D.latest (2+p)=zeros 512
  have p1:p < n - 2 - n / 2:=p1
  exact hz _ (by omega) (by omega)
 ·show n / 2*408 - 408 - ((1:Int) - 1)=n / 2*408 - 408
  omega
 ·exact ⟨by show (0:Int)<=2;decide,by show 1<=n - 2 - n / 2;omega,by show 2+(n - 2 - n / 2)<=D.n;omega,by omega,.inl (by show 2+(n - 2 - n / 2)<=n - n / 2;omega),f0,f1,by show ((0:Nat):Int)<=frames;omega,Int.le_refl _,Int.le_refl _,List.nodup_nil,fun f hf=>by cases hf⟩
 ·show n - 2 - n / 2=D.n - 2 - D.n / 2;rw [hn]
 ·show n - n / 2=D.n - D.n / 2;rw [hn]
 ·show n / 2=D.n / 2;rw [hn]
structure FmtD (D:DevM) (N:Int) (m:MasM):Prop where
 c:Calm D
 n:D.n=N
 mas:readMas D=(m,0)
 z:∀ k,2<=k->k < N->D.latest k=zeros 512
 o:∀ k,D.opn k=none
 l:∀ k,(D.latest k).length=512
theorem zvmM {n:Int} (n0:24<=n):∃ D,ziko (newM n)=(0,D)/\FmtD D n ⟨1,1,1⟩:=by
 have hc:Calm (newM n):=⟨rfl,rfl,by show 1<=n;omega⟩
 obtain ⟨D,e1,e2,e3,e4,e5,e6,e7⟩:=zPvt hc (by show 24<=n;exact n0)
 exact ⟨D,e1,e2,e3,e4,e5,e6,e7 fun k=>zrlC 512⟩
theorem FmtD.opened {D:DevM} {n:Int} {m:MasM} (h:FmtD D n m) (n0:24<=n) (n1:n<=65536) {T:Int} (t0:1<=T) (t1:T < 2147483648) :
  ¬ badM D.n (n - n / 2) (n / 2) 1 T/\openM D (n - n / 2) (n / 2) 1 T=(some (newL (n - n / 2) (n / 2) T),D,0)/\(zoel D (n - n / 2) (n / 2) T ((n / 2)*408 - 408).toNat (((n / 2)*408 - 408).toNat+1) 1 0 []).1.length<=1000000/\LogI D (newL (n - n / 2) (n / 2) T) [] (fun _=>0):=by
 have hb:¬ badM D.n (n - n / 2) (n / 2) 1 T:=by unfold badM;rw [h.n];omega
 exact ⟨hb,zX6x h.c hb (by omega) (by omega) (fun k h0 h1=>h.z k (by omega) (by omega)) (fun k _ _=>h.o k) h.l (fun k=>by rw [zFV1 (h.o k)];exact h.l k)⟩
theorem zSPw {n:Int} (n0:24<=n) (n1:n<=65536):zO5o n=(2,n - 2 - n / 2,n - n / 2,n / 2):=by unfold zO5o;rw [if_neg (by omega)]
end Go.Proofs.YtfgagakepmigbaaGreat
