/-
  No statement is proved here.
-/
import Derived.Test.YtfgagakepmigbaaGreatJBkw
import Derived.Test.YtfgagakepmigbaaGreatJBkr
import Derived.Test.YtfgagakepmigbaaGreatJBkv
import Derived.Test.YtfgagakepmigbaaGreatJQfl
namespace Go.Proofs.YtfgagakepmigbaaGreat
open Go.RowKit
theorem zzir {m:MasM} (h:m.may):decM (zR62 m)=m:=by
 obtain ⟨h1,h2,h3,h4,h5,h6⟩:=h
 have e:zR62 m=[80,77,48,49] ++ (putI m.seq ++ (putI m.turn ++ (putI m.oldest ++ (mCrc m ++ zeros 480)))):=by
  unfold zR62 mHead;simp only [List.append_assoc]
 have p1:(zR62 m).drop 4=putI m.seq ++ (putI m.turn ++ (putI m.oldest ++ (mCrc m ++ zeros 480))):=by rw [e];rfl
 have p2:(zR62 m).drop 12=putI m.turn ++ (putI m.oldest ++ (mCrc m ++ zeros 480)):=by
  have:(zR62 m).drop 12=((zR62 m).drop 4).drop 8:=by rw [List.drop_drop]
  rw [this,p1,List.drop_append_of_le_length (by rw [zOs4];omega),List.drop_of_length_le (by rw [zOs4];omega)];rfl
 have p3:(zR62 m).drop 20=putI m.oldest ++ (mCrc m ++ zeros 480):=by
  have:(zR62 m).drop 20=((zR62 m).drop 12).drop 8:=by rw [List.drop_drop]
  rw [this,p2,List.drop_append_of_le_length (by rw [zOs4];omega),List.drop_of_length_le (by rw [zOs4];omega)];rfl
 unfold decM
 rw [p1,p2,p3,zHuO (by omega) (by omega),zHuO (by omega) (by omega),zHuO (by omega) (by omega)]
theorem zT9s {m:MasM} (h:m.may) {k:Int} (hk:m.seq.tmod 2=k):zhQE (zR62 m) k=(m,true):=by
 unfold zhQE
 rw [zzir h,if_neg (by rintro (c | c);exact c h;exact c hk)]
 simp
theorem zBWj {l:Bytes} {k:Int} (h:(zhQE l k).2=true):(zhQE l k).1.may/\(zhQE l k).1.seq.tmod 2=k/\zR62 (zhQE l k).1=l:=by
 unfold zhQE at h ⊢
 split at h
 ·cases h
 ·rename_i hc
  rw [if_neg hc]
  refine ⟨Classical.byContradiction fun c=>hc (.inl c),Classical.byContradiction fun c=>hc (.inr c),by simpa using h⟩
theorem zcIp (k:Int):(zhQE (zeros 512) k).2=false:=by
 have h:decM (zeros 512)=⟨-9223372036854775808,-9223372036854775808,-9223372036854775808⟩:=by decide +kernel
 unfold zhQE
 rw [h,if_pos (.inl (by intro c;have:=c.1;revert this;decide))]
theorem zsJw {D D':DevM} (hd:D'.down=D.down) (h0:D'.latest 0=D.latest 0) (h1:D'.latest 1=D.latest 1):readMas D'=readMas D:=by
 have e:bestM D' 2=bestM D 2:=by
  show bestM D' (1+1)=bestM D (1+1)
  unfold bestM
  unfold bestM
  rw [show ((1:Nat):Int)=1 from rfl,h1,show ((0:Nat):Int)=0 from rfl,h0]
  rfl
 unfold readMas
 rw [hd,e]
theorem z2XT:zM.seq=0:=rfl
theorem zL26 (D:DevM):bestM D 2=if (zhQE (D.latest 1) 1).2=true/\(if (zhQE (D.latest 0) 0).2=true then (zhQE (D.latest 0) 0).1 else zM).seq < (zhQE (D.latest 1) 1).1.seq then (zhQE (D.latest 1) 1).1 else (if (zhQE (D.latest 0) 0).2=true then (zhQE (D.latest 0) 0).1 else zM):=by
 have e1:bestM D 1=if (zhQE (D.latest 0) 0).2=true then (zhQE (D.latest 0) 0).1 else zM:=by
  show (if (zhQE (D.latest 0) 0).2=true/\zM.seq < (zhQE (D.latest 0) 0).1.seq then (zhQE (D.latest 0) 0).1 else zM)=_
  by_cases c:(zhQE (D.latest 0) 0).2=true
  ·have:=(zBWj c).1.1
   rw [if_pos c,if_pos ⟨c,by rw [z2XT];omega⟩]
  ·rw [if_neg c,if_neg (fun h=>c h.1)]
 show (if (zhQE (D.latest 1) 1).2=true/\(bestM D 1).seq < (zhQE (D.latest 1) 1).1.seq then (zhQE (D.latest 1) 1).1 else bestM D 1)=_
 rw [e1]
theorem zNwm {D:DevM} (hd:D.down=false) {m:MasM} (hm:m.may) (h:bestM D 2=m):readMas D=(m,0):=by
 unfold readMas
 rw [hd,h,if_neg (by decide),if_neg (by intro e;rw [e] at hm;have:=hm.1;revert this;decide)]
theorem zQuO {D D':DevM} {m m':MasM} (h:bestM D 2=m) (hm':m'.may) (hs:m.seq < m'.seq) (hn:D'.latest (m'.seq.tmod 2)=zR62 m') (ho:∀ k,(k=0\/k=1)->k≠m'.seq.tmod 2->D'.latest k=D.latest k):bestM D' 2=m':=by
 have h1:=hm'.1
 rw [zL26] at h ⊢
 have hk:m'.seq.tmod 2=0\/m'.seq.tmod 2=1:=by
  have:=Int.tmod_nonneg 2 (show 0<=m'.seq by omega)
  have:=Int.tmod_lt_of_pos m'.seq (show (0:Int) < 2 by decide)
  omega
 rcases hk with hk | hk
 ·rw [hk] at hn
  have ho1:=ho 1 (.inr rfl) (by rw [hk];decide)
  rw [hn,ho1,zT9s hm' hk]
  dsimp only
  rw [if_pos rfl]
  by_cases c:(zhQE (D.latest 1) 1).2=true
  ·have hg:=(zBWj c).1
   rw [if_neg]
   rintro ⟨-,c2⟩
   by_cases d:(if (zhQE (D.latest 0) 0).2=true then (zhQE (D.latest 0) 0).1 else zM).seq < (zhQE (D.latest 1) 1).1.seq
   ·rw [if_pos ⟨c,d⟩] at h;rw [h] at c2;omega
   ·rw [if_neg (fun x=>d x.2)] at h;rw [h] at d;omega
  ·rw [if_neg (fun x=>c x.1)]
 ·rw [hk] at hn
  have ho0:=ho 0 (.inl rfl) (by rw [hk];decide)
  rw [hn,ho0,zT9s hm' hk]
  dsimp only
  rw [if_pos]
  refine ⟨rfl,?_⟩
  by_cases c:(zhQE (D.latest 1) 1).2=true/\(if (zhQE (D.latest 0) 0).2=true then (zhQE (D.latest 0) 0).1 else zM).seq < (zhQE (D.latest 1) 1).1.seq
  ·rw [if_pos c] at h;have:=c.2;rw [h] at this;omega
  ·rw [if_neg c] at h;rw [h];exact hs
theorem tmod2 {n:Int} (h:1<=n):0<=n.tmod 2/\n.tmod 2 < 2:=⟨Int.tmod_nonneg 2 (by omega),Int.tmod_lt_of_pos n (by decide)⟩
theorem z5tp {D:DevM} {m:MasM} (h:readMas D=(m,0)):bestM D 2=m:=by
 unfold readMas at h
 split at h
 ·cases h
 ·split at h
  ·cases h
  ·exact (Prod.mk.inj h).1
theorem zIJ2 {D:DevM} (hc:Calm D) (hn:24<=D.n) {m':MasM} (hm':m'.may) (hl:∀ m,bestM D 2=m->m.seq < m'.seq) :
  ∃ D',zgqU D m'=(D',0)/\Calm D'/\D'.n=D.n/\readMas D'=(m',0)/\(∀ k,2<=k->D'.latest k=D.latest k)/\(∀ k,D'.opn k=none)/\D'.armed=0/\((∀ k,(D.latest k).length=512)->∀ k,(D'.latest k).length=512):=by
 obtain ⟨t0,t1⟩:=tmod2 hm'.1
 have hw:=hc.write (b:=m'.seq.tmod 2) t0 (by omega) (zWy4 m')
 have hc1:Calm (D.put (m'.seq.tmod 2) (zR62 m')):=⟨hc.a,hc.d,hc.n⟩
 refine ⟨(D.put (m'.seq.tmod 2) (zR62 m')).sync,?_,⟨hc.a,hc.d,hc.n⟩,rfl,zNwm (D:=(D.put (m'.seq.tmod 2) (zR62 m')).sync) hc.d hm' (zQuO (D:=D) rfl hm' (hl _ rfl) ?_ fun k _ hk=>?_),fun k hk=>?_,fun k=>rfl,hc.a,fun hL k=>?_⟩
 ·unfold zgqU
  rw [if_neg (by rintro (c | c);omega;exact c hm'),hw]
  dsimp only
  rw [if_neg (by decide),hc1.sync]
 ·rw [zXFu,z4uV,if_pos rfl]
 ·rw [zXFu,z4uV,if_neg hk]
 ·rw [zXFu,z4uV,if_neg (by omega)]
 ·rw [zXFu,z4uV]
  split
  ·exact zWy4 m'
  ·exact hL k
theorem zPvt {D:DevM} (hc:Calm D) (hn:24<=D.n):∃ D',ziko D=(0,D')/\Calm D'/\D'.n=D.n/\readMas D'=(⟨1,1,1⟩,0)/\(∀ k,2<=k->k < D.n->D'.latest k=zeros 512)/\(∀ k,D'.opn k=none)/\((∀ k,(D.latest k).length=512)->∀ k,(D'.latest k).length=512):=by
 have h1:=z2nB hc D.n.toNat
 obtain ⟨n1,n2,n3,n4⟩:=zZpD D D.n.toNat
 have hlat:∀ k,0<=k->k < D.n->(fillZ D.n.toNat D).latest k=zeros 512:=fun k h0 hk=>by
  unfold DevM.latest
  rw [zNqp,if_pos (by omega)]
  rfl
 obtain ⟨D2,hD2⟩:∃ D2,D2=(fillZ D.n.toNat D).sync:=⟨_,rfl⟩
 have hc2:Calm D2:=by rw [hD2];exact ⟨h1.a,h1.d,h1.n⟩
 have hlat2:∀ k,0<=k->k < D.n->D2.latest k=zeros 512:=fun k h0 hk=>by rw [hD2,zXFu];exact hlat k h0 hk
 have hb:bestM D2 2=zM:=by
  rw [zL26,hlat2 0 (by omega) (by omega),hlat2 1 (by omega) (by omega),if_neg (fun x=>by have:=zcIp 1;rw [this] at x;cases x.1),if_neg (by rw [zcIp];decide)]
 obtain ⟨D',w1,w2,w3,w4,w5,w6,w7,w8⟩:=zIJ2 hc2 (by rw [hD2];show 24<=(fillZ D.n.toNat D).n;omega) (m':=⟨1,1,1⟩) (by decide) (fun m hm=>by rw [hb] at hm;rw [<- hm];decide)
 have hn2:D2.n=D.n:=by rw [hD2];exact n1
 refine ⟨D',?_,w2,w3.trans hn2,w4,fun k h0 hk=>by rw [w5 k h0];exact hlat2 k (by omega) hk,w6,fun hL=>w8 fun k=>?_⟩
 ·unfold ziko
  rw [h1.sync]
  dsimp only
  rw [if_neg (by decide),<- hD2,w1]
 ·rw [hD2,zXFu]
  unfold DevM.latest
  rw [zNqp,n4]
  by_cases c:0<=k/\k < (D.n.toNat:Int)
  ·rw [if_pos c];exact zrlC 512
  ·rw [if_neg c];exact hL k
structure CoreI (P:PoolM) (L:LogM) (D:DevM) (R:List RecM):Prop where
 li:∃ B,LogI D L R B
 pi:PoolI P L D
 calm:Calm D
 free:∀ p,P.heldOf p=0
 pf:P.first=2
 pb:P.blocks=D.n - 2 - D.n / 2
 lf:L.first=D.n - D.n / 2
 lc:L.count=D.n / 2
 n24:24<=D.n
 n64:D.n<=65536
structure CoreK (P:PoolM) (L:LogM) (D:DevM) (P':PoolM) (L':LogM) (D':DevM):Prop where
 n:D'.n=D.n
 o:L'.oldest=L.oldest
 t:L'.turn=L.turn
 b0:D'.latest 0=D.latest 0
 b1:D'.latest 1=D.latest 1
section
variable {P P' P2:PoolM} {L L' L2:LogM} {D D' D2:DevM} {R:List RecM}
theorem CoreK.refl (P:PoolM) (L:LogM) (D:DevM):CoreK P L D P L D:=⟨rfl,rfl,rfl,rfl,rfl⟩
theorem CoreK.trans (h:CoreK P L D P' L' D') (k:CoreK P' L' D' P2 L2 D2):CoreK P L D P2 L2 D2:=⟨k.n.trans h.n,k.o.trans h.o,k.t.trans h.t,k.b0.trans h.b0,k.b1.trans h.b1⟩
theorem CoreI.held (h:CoreI P L D R) {f:FrM} (hf:f∈P.ring):f.held=0:=by rw [<- zN5k h.pi.nd hf];exact h.free _
theorem CoreI.len (h:CoreI P L D R) (k:Int):(D.latest k).length=512:=by obtain ⟨B,hL⟩:=h.li;exact hL.len k
theorem CoreI.g (h:CoreI P L D R):LogG L:=by obtain ⟨B,hL⟩:=h.li;exact hL.g
theorem CoreI.lenP (h:CoreI P L D R):LenP P:=fun f hf=>(h.pi.fr f hf).2.2.1
theorem CoreI.bkg (h:CoreI P L D R):BkG P L D:=⟨h.g,h.pi.n,h.calm.d,h.pi.fn,h.lenP⟩
theorem CoreI.room (h:CoreI P L D R):0<=L.room/\L.room<=13369344/\L.fin=L.oldest+(408*(D.n / 2) - 408) - L.room/\1<=L.oldest/\L.oldest<=L.fin:=by
 obtain ⟨B,hL⟩:=h.li
 have h1:=hL.room
 have h2:=hL.so
 have h3:=hL.sf
 have h4:=h.lc
 have h5:=h.n64
 have h6:=hL.o1
 unfold LogM.room
 rw [h4] at h1 ⊢
 omega
theorem CoreI.curLen (h:CoreI P L D R) (p:Int):(P.cur D p).length=512:=zeDU h.pi h.len p
theorem zRoj (h:CoreI P L D R) {page:Int} (p0:0<=page) (p1:page < P.blocks) :
  ∃ P' L' D' i f,ziLQ P L D page=(P',L',D',i,0)/\P'.ring[i]?=some f/\f.page=page/\f.b=P.cur D page/\CoreI P' L' D' R/\CoreK P L D P' L' D'/\Like P L D P' L' D'/\∀ p,0<=p->p < P.blocks->P'.cur D' p=P.cur D p:=by
 obtain ⟨B,hL⟩:=h.li
 rcases zQlR h.pi hL h.calm p0 p1 with ⟨P',L',D',i,f,e,h1,h2,h3,_,h4,h5,h6,h7,_⟩ | ⟨P',e,_,_,h3,h4⟩
 ·have hl:=h7.like
  have hp:=h.pf
  have hlf:=h.lf
  have hn:=h.n24
  refine ⟨P',L',D',i,f,e,h1,h2,h3,⟨⟨B,h5⟩,h4,h6,fun p=>by rw [h7.held];exact h.free p,hl.pf.trans h.pf,by rw [hl.pb,hl.n];exact h.pb,by rw [hl.lf,hl.n];exact h.lf,by rw [hl.lc,hl.n];exact h.lc,by rw [hl.n];exact h.n24,by rw [hl.n];exact h.n64⟩,⟨hl.n,hl.lo,hl.lt,h7.out 0 (by omega) (by omega),h7.out 1 (by omega) (by omega)⟩,hl,h7.cur⟩
 ·have m8:=h.pi.m8
  cases hr:P.ring with
  | nil=>rw [hr] at h4;simp at h4;omega
  | cons f _=>
   have hf:f∈P.ring:=by rw [hr];simp
   have h5:=(h3 f hf).1
   have h6:=h.held hf
   omega
theorem zsNq (h:CoreI P L D R) {page off lsn:Int} {m:Bytes} (p0:0<=page) (p1:page < P.blocks) (o0:0<=off) (m0:m≠[]) (o1:off+m.length<=512) (l1:1<=lsn) (l2:lsn < L.fin) :
  ∃ P' L' D',zpi7 P L D page off m lsn=(P',L',D',0)/\CoreI P' L' D' R/\CoreK P L D P' L' D'/\Like P L D P' L' D'/\(∀ p,0<=p->p < P.blocks->P'.cur D' p=if p=page then layO (P.cur D page) off.toNat m else P.cur D p):=by
 obtain ⟨P',L',D',i,f,e,h1,h2,h3,h4,hk,hl,h5⟩:=zRoj h p0 p1
 have hm0:0 < m.length:=List.length_pos_iff.2 m0
 have hlen:f.b.length=512:=(h4.pi.fr f (List.mem_of_getElem? h1)).2.2.1
 have hf:=h4.pi.fr f (List.mem_of_getElem? h1)
 obtain ⟨g,hg⟩:∃ g:FrM,g={ f with b:=layO f.b off.toNat m,last:=max f.last lsn,dirty:=true,first:=if f.dirty then f.first else lsn }:=⟨_,rfl⟩
 have hfin:=hl.fin
 have he:=z8pm h4.pi h1 (g:=g) (by rw [hg]) (by rw [hg]) (by rw [hg];show (layO f.b off.toNat m).length=512;rw [zTAh (by omega)];exact hlen) (by rw [hg];show 0<=max f.last lsn;omega) (by rw [hg];show max f.last lsn < L'.fin;have:=hf.2.2.2.2.2.1;omega) (by rw [hg])
  (by
    rw [hg];show 1<=(if f.dirty=true then f.first else lsn)
    split
    ·rename_i hd;exact hf.2.2.2.2.2.2.2 hd
    ·exact l1)
 refine ⟨{ P' with ring:=P'.ring.set i g },L',D',?_,⟨h4.li,he.1,h4.calm,fun p=>by rw [he.2.2];exact h4.free p,h4.pf,h4.pb,h4.lf,h4.lc,h4.n24,h4.n64⟩,⟨hk.n,hk.o,hk.t,hk.b0,hk.b1⟩,⟨hl.pf,hl.pb,hl.pm,hl.lf,hl.lc,hl.lt,hl.lo,hl.fin,hl.safe,hl.n,hl.lsns⟩,fun p q0 q1=>?_⟩
 ·unfold zpi7
  rw [if_neg (by omega),if_neg (by
   rintro (c | c | c | c | c | c)
   ·omega
   ·omega
   ·exact m0 c
   ·omega
   ·omega
   ·omega),e]
  dsimp only
  rw [if_neg (fun h=>h rfl),h1,hg]
 ·rw [he.2.1,h2]
  by_cases c:p=page
  ·rw [if_pos c,if_pos c,hg]
   show layO f.b off.toNat m=_
   rw [h3]
  ·rw [if_neg c,if_neg c]
   exact h5 p q0 q1
theorem z7aM (h:CoreI P L D R) (r r':RecM) (e:r'={ r with lsn:=L.fin,turn:=L.turn }) (hr:zZer r') (hroom:((encM r').length:Int)<=L.room) (hfm:L.fin<=2999999999999000000) :
  ∃ L',L.append r=(L',L.fin,0)/\CoreI P L' D (R ++ [r'])/\CoreK P L D P L' D/\L'.fin=L.fin+(encM r').length/\L'.room=L.room - (encM r').length/\L'.lsns=L.lsns ++ [L.fin]/\LogG L':=by
 subst e
 obtain ⟨B,hL⟩:=h.li
 obtain ⟨a1,B',a2⟩:=zK9R hL r hr (by omega) hfm
 have hel:=(zThL hr).1
 have hpi:=h.pi
 refine ⟨_,a1,⟨⟨B',a2⟩,⟨hpi.f0,hpi.b1,hpi.fn,hpi.dn,hpi.ap,hpi.m8,hpi.m1,hpi.len,hpi.h0,hpi.h1,hpi.nd,fun f hf=>?_⟩,h.calm,h.free,h.pf,h.pb,h.lf,h.lc,h.n24,h.n64⟩,⟨rfl,rfl,rfl,rfl,rfl⟩,rfl,?_,rfl,a2.g⟩
 ·have hff:=hpi.fr f hf
  exact ⟨hff.1,hff.2.1,hff.2.2.1,hff.2.2.2.1,hff.2.2.2.2.1,by have:=hff.2.2.2.2.2.1;show f.last < L.fin+_;omega,hff.2.2.2.2.2.2.1,hff.2.2.2.2.2.2.2⟩
 ·unfold LogM.room;show L.count*408 - 408 - (L.fin+_ - L.oldest)=_;omega
def LogHas (L:LogM) (R:List RecM) (r:RecM):Prop:=∃ k,R[k]?=some r/\L.lsns.getD k 0=r.lsn
theorem LogHas.snoc {r r':RecM} {n:Int} (h:LogHas L R r) (hl:L.lsns.length=R.length) (hL:L'.lsns=L.lsns ++ [n]):LogHas L' (R ++ [r']) r:=by
 obtain ⟨k,h1,h2⟩:=h
 have hk:=(List.getElem?_eq_some_iff.1 h1).1
 refine ⟨k,by rw [List.getElem?_append_left hk];exact h1,?_⟩
 rw [hL,List.getD_eq_getElem?_getD,List.getElem?_append_left (by omega),<- List.getD_eq_getElem?_getD]
 exact h2
theorem LogHas.new {r':RecM} (hl:L.lsns.length=R.length) (hL:L'.lsns=L.lsns ++ [r'.lsn]):LogHas L' (R ++ [r']) r':=by
 refine ⟨R.length,by rw [List.getElem?_append_right (Nat.le_refl _),Nat.sub_self];rfl,?_⟩
 rw [hL,List.getD_eq_getElem?_getD,List.getElem?_append_right (by omega),hl,Nat.sub_self]
 rfl
theorem LogHas.lsns {r:RecM} (h:LogHas L R r) (hL:L'.lsns=L.lsns):LogHas L' R r:=by
 obtain ⟨k,h1,h2⟩:=h
 exact ⟨k,h1,by rw [hL];exact h2⟩
theorem LogHas.read {r:RecM} {B:Int->UInt8} (h:LogHas L R r) (hL:LogI D L R B):L.read D r.lsn=(some r,0):=by
 obtain ⟨k,h1,h2⟩:=h
 obtain ⟨hk,e⟩:=List.getElem?_eq_some_iff.1 h1
 rw [<- h2,zaXM hL hk,e]
theorem CoreI.lsnsLen (h:CoreI P L D R):L.lsns.length=R.length:=by obtain ⟨B,hL⟩:=h.li;exact hL.llen
def fwdR (r:RecM) (f:Int->Bytes):Int->Bytes:=fun p=>if p=r.blk then layO (f p) r.off.toNat r.new else f p
def BkM.recL (b:BkM) (L:LogM) (r:RecM):RecM:={ b.recB r with lsn:=L.fin,turn:=L.turn }
theorem zz88 (h:CoreI P L D R) (b:BkM) (r:RecM) (hr:zZer (b.recL L r)) (hk:r.kind=1\/r.kind=2) (hroom:((encM (b.recL L r)).length:Int)<=L.room) (hfm:L.fin<=2999999999999000000) (hb:r.blk < P.blocks) :
  ∃ P' L' D',b.chg P L D r=({ b with last:=L.fin },P',L',D',0)/\CoreI P' L' D' (R ++ [b.recL L r])/\CoreK P L D P' L' D'/\P'.blocks=P.blocks/\(∀ p,0<=p->p < P.blocks->P'.cur D' p=fwdR r (P.cur D) p) /\
   L'.room=L.room - (encM (b.recL L r)).length/\L'.lsns=L.lsns ++ [L.fin]/\((b.app L r).2.2=0->LogG (b.app L r).2.1):=by
 obtain ⟨L1,a1,a2,a3,a4,a5,a6,a7⟩:=z7aM h (b.recB r) (b.recL L r) rfl hr hroom hfm
 have hel:=(zThL hr).1
 have hfit:fitsM (b.recL L r):=by
  rcases hr.2.2.2.2.2.2.2 with c | c | c
  ·exact c.2.2.1
  ·exact c.2.1
  ·rcases hk with k | k
   ·rcases c.1 with c1 | c1
    ·rw [show (b.recL L r).kind=r.kind from rfl,k] at c1;exact absurd c1 (by decide)
    ·rw [show (b.recL L r).kind=r.kind from rfl,k] at c1;exact absurd c1 (by decide)
   ·rcases c.1 with c1 | c1
    ·rw [show (b.recL L r).kind=r.kind from rfl,k] at c1;exact absurd c1 (by decide)
    ·rw [show (b.recL L r).kind=r.kind from rfl,k] at c1;exact absurd c1 (by decide)
 obtain ⟨f1,f2,f3,f4,f5,f6⟩:=hfit
 have f1:0<=r.blk:=f1
 have f3:0<=r.off:=f3
 have f5:1<=r.new.length:=f5
 have f6:(r.new.length:Int)<=512 - r.off:=f6
 have hro:=h.room
 obtain ⟨P',L',D',c1,c2,c3,c4,c5⟩:=zsNq a2 (page:=r.blk) (off:=r.off) (lsn:=L.fin) (m:=r.new) f1 hb f3 (by intro e;rw [e] at f5;simp at f5) (by omega) (by omega) (by rw [a4];omega)
 have happ:b.app L r=({ b with last:=L.fin },L1,0):=by
  unfold BkM.app
  rw [a1]
  rfl
 have hfin:=c4.fin
 have hn:=c3.n
 refine ⟨P',L',D',?_,c2,a3.trans c3,c4.pb,fun p q0 q1=>?_,?_,c4.lsns.trans a6,fun _=>by rw [happ];exact a7⟩
 ·unfold BkM.chg
  rw [happ]
  dsimp only
  rw [if_neg (fun h=>h rfl),c1]
 ·rw [c5 p q0 q1]
  unfold fwdR
  by_cases c:p=r.blk
  ·rw [if_pos c,if_pos c,c]
  ·rw [if_neg c,if_neg c]
 ·rw [<- a5];unfold LogM.room;rw [c4.lc,c4.fin,c4.lo]
end
theorem zeQJ (r:RecM):(encM r).length=35+(if r.kind=2 then 8 else 0)+(if r.new=[] then 0 else 8+r.old.length+r.new.length):=by
 rw [z34p]
 unfold bodyM
 by_cases h1:r.kind=2<;>by_cases h2:r.new=[]<;>simp [h1,h2,zmTu]<;>omega
theorem z5uX {b m:Bytes} {k:Nat} (h:k+m.length<=b.length):layO b k m=over b k m:=by
 unfold layO over
 rw [List.take_of_length_le (show m.length<=b.length - k by omega),List.append_assoc]
theorem zWOc {b m:Bytes} {k j:Nat} (h:k+m.length<=b.length) (hj:j < b.length):bAt (layO b k m) j=if k<=j/\j < k+m.length then bAt m (j - k) else bAt b j:=by
 rw [z5uX h];exact zqrL h hj
theorem zXuh {b m m':Bytes} {k:Nat} (h:k+m.length<=b.length) (hl:m'.length=m.length) (hm:∀ j,j < m'.length->bAt m' j=bAt b (k+j)):layO (layO b k m) k m'=b:=by
 have h1:=zTAh h
 have h2:k+m'.length<=(layO b k m).length:=by omega
 refine zdCA (by rw [zTAh h2,h1]) fun j hj=>?_
 rw [zTAh h2] at hj
 rw [zWOc h2 hj]
 by_cases c:k<=j/\j < k+m'.length
 ·rw [if_pos c,hm _ (by omega)]
  congr 1;omega
 ·rw [if_neg c,zWOc h (by omega),if_neg (by omega)]
def bwdR (r:RecM) (f:Int->Bytes):Int->Bytes:=fun p=>if p=r.blk then layO (f p) r.off.toNat r.old else f p
def undoAll:List RecM->(Int->Bytes)->Int->Bytes
 | [],f=>f
 | r :: rs,f=>undoAll rs (bwdR r f)
theorem zVL5 {N:Int}:∀ (T:List RecM) {f g:Int->Bytes},(∀ p,0<=p->p < N->f p=g p)->∀ p,0<=p->p < N->undoAll T f p=undoAll T g p
 | [],_,_,h=>h
 | r :: rs,f,g,h=>zVL5 rs (fun p h0 h1=>by unfold bwdR;rw [h p h0 h1])
theorem znu2:∀ T:List RecM,0<=owesM T/\51*(T.length:Int)<=owesM T
 | []=>by simp [owesM]
 | r :: rs=>by
  have h:=znu2 rs
  simp only [owesM,List.length_cons]
  omega
structure TxI (b:BkM) (N:Int) (L:LogM) (R T:List RecM) (cur was:Int->Bytes):Prop where
 tx0:0<=b.tx
 tx1:b.tx<=L.fin
 l0:0<=b.last
 l1:b.last<=L.fin
 done:b.done=(T.map (·.lsn)).reverse
 has:∀ r∈T,LogHas L R r
 ok:∀ r∈T,fitsM r/\r.old.length=r.new.length/\r.blk < N/\1<=r.lsn/\r.lsn<=L.fin
 und:∀ p,0<=p->p < N->undoAll T cur p=was p
theorem zMa1 {n f:Int} (h0:0<=n) (h1:n<=f) (h2:f<=3000000000000000000):isI n:=by unfold isI;omega
section
variable {P P' P0:PoolM} {L L' L0:LogM} {D D' D0:DevM} {R R' T:List RecM} {b b0:BkM} {cur was:Int->Bytes} {N:Int}
theorem TxI.len (h:TxI b N L R T cur was):b.done.length=T.length:=by rw [h.done];simp
theorem TxI.push (h:TxI b N L R T cur was) {r r':RecM} (hl:L.lsns.length=R.length) (hL:L'.lsns=L.lsns ++ [L.fin]) (he:r'=b.recL L r) (h1:1<=L.fin) (hf:L.fin<=L'.fin) (hfit:fitsM r) (hon:r.old.length=r.new.length) (hb:r.blk < N) {cur':Int->Bytes}
  (hcur:∀ p,0<=p->p < N->cur' p=fwdR r cur p) (hlen:∀ p,(cur p).length=512) (hold:∀ j,j < r.old.length->bAt r.old j=bAt (cur r.blk) (r.off.toNat+j)) (o:Int) :
  TxI ({ b with last:=L.fin,done:=b.done ++ [L.fin],owed:=o }:BkM) N L' (R ++ [r']) (r' :: T) cur' was:=by
 have hfin:=h.tx1
 have hlast:=h.l1
 have e:r'.lsn=L.fin:=by rw [he];rfl
 have eb:r'.blk=r.blk:=by rw [he];rfl
 have eo:r'.off=r.off:=by rw [he];rfl
 have eold:r'.old=r.old:=by rw [he];rfl
 have enew:r'.new=r.new:=by rw [he];rfl
 refine ⟨h.tx0,by show b.tx<=_;omega,by show 0<=L.fin;omega,hf,?_,fun x hx=>?_,fun x hx=>?_,fun p h0 h1=>?_⟩
 ·show b.done ++ [L.fin]=_
  rw [h.done,List.map_cons,List.reverse_cons,e]
 ·rcases List.mem_cons.1 hx with rfl | hx
  ·exact LogHas.new (L:=L) hl (by rw [e];exact hL)
  ·exact (h.has x hx).snoc hl hL
 ·rcases List.mem_cons.1 hx with rfl | hx
  ·refine ⟨?_,by rw [eold,enew];exact hon,by rw [eb];exact hb,by rw [e];exact h1,by rw [e];exact hf⟩
   unfold fitsM at hfit ⊢
   rw [eb,eo,enew];exact hfit
  ·obtain ⟨x1,x2,x3,x4,x5⟩:=h.ok x hx
   exact ⟨x1,x2,x3,x4,by omega⟩
 ·show undoAll T (bwdR r' cur') p=was p
  rw [<- h.und p h0 h1]
  refine zVL5 T (N:=N) (fun q q0 q1=>?_) p h0 h1
  unfold bwdR
  rw [hcur q q0 q1,eb,eo,eold]
  unfold fwdR
  obtain ⟨f1,f2,f3,f4,f5,f6⟩:=hfit
  by_cases c:q=r.blk
  ·rw [if_pos c,if_pos c]
   exact zXuh (by rw [hlen];omega) hon (fun j hj=>by rw [c];exact hold j hj)
  ·rw [if_neg c,if_neg c]
theorem zbJD {rs:List RecM} {J:Nat->BkM->PoolM->LogM->DevM->Prop} (hJ:∀ k b P L D r,J k b P L D->rs[k]?=some r->(b.chg P L D r).2.2.2.2=0/\J (k+1) ((b.chg P L D r).1.did r) (b.chg P L D r).2.1 (b.chg P L D r).2.2.1 (b.chg P L D r).2.2.2.1) :
  ∀ (n k:Nat) (b:BkM) (P:PoolM) (L:LogM) (D:DevM),k+n=rs.length->J k b P L D->∃ b' P' L' D',zkcY (rs.drop k) b P L D=(b',P',L',D',0)/\J rs.length b' P' L' D'
 | 0,k,b,P,L,D,hk,h=>⟨b,P,L,D,by rw [List.drop_of_length_le (by omega)];rfl,by rw [<- hk];exact h⟩
 | n+1,k,b,P,L,D,hk,h=>by
  have hr:rs[k]?=some (rs[k]'(by omega)):=List.getElem?_eq_getElem (by omega)
  obtain ⟨h1,h2⟩:=hJ k b P L D _ h hr
  rw [zE5m hr,if_neg (fun c=>c h1)]
  exact zbJD hJ n (k+1) _ _ _ _ (by omega) h2
theorem zS3g {α:Type} {l:List α} {k:Nat} {x:α} (h:l[k]?=some x):l.take (k+1)=l.take k ++ [x]:=by
 obtain ⟨hk,e⟩:=List.getElem?_eq_some_iff.1 h
 rw [List.take_succ_eq_append_getElem hk,e]
structure PutS (P0:PoolM) (L0:LogM) (D0:DevM) (b0:BkM) (page:Int) (a d:Bytes) (was:Int->Bytes) (nT:Nat) (k:Nat) (b:BkM) (P:PoolM) (L:LogM) (D:DevM) (R T:List RecM):Prop where
 c:CoreI P L D R
 kp:CoreK P0 L0 D0 P L D
 bl:P.blocks=P0.blocks
 tx:TxI b P0.blocks L R T (P.cur D) was
 inT:b.inT=true
 cnt:b.count=b0.count
 cur:∀ p,0<=p->p < P0.blocks->P.cur D p=if p=page then mixS a d ((diffM a d).take k) else P0.cur D0 p
 room:L.room=L0.room - costM ((recsM page a d).take k)
 owed:b.owed=b0.owed+owesM ((recsM page a d).take k)
 nT:T.length=nT+k
 ow:b.owed=35+owesM T
theorem zn54 (a d:Bytes) (_ha:a.length=512) {k:Nat} {s:Nat×Nat} (hs:(diffM a d)[k]?=some s) (j:Nat) (hj:s.1+j < s.2):bAt (segB a s) j=bAt (mixS a d ((diffM a d).take k)) (s.1+j):=by
 have hg:=z6BQ a d
 obtain ⟨hk,e⟩:=List.getElem?_eq_some_iff.1 hs
 have hok:=hg.ok s (e▸List.getElem_mem hk)
 have h2:=hok.2.1
 rw [zDIq hj,zlIX _ _ _ (by omega),if_neg]
 intro hc
 obtain ⟨u,hu,hc⟩:=List.any_eq_true.1 hc
 have hc:u.1<=s.1+j/\s.1+j < u.2:=by simpa using hc
 obtain ⟨i,hi,rfl⟩:=List.mem_iff_getElem.1 hu
 rw [List.getElem_take] at hc
 have hik:i < k:=by rw [List.length_take] at hi;omega
 have:=List.pairwise_iff_getElem.1 hg.far i k (by omega) hk hik
 rw [e] at this
 unfold Apart8 at this
 omega
theorem zBxx {page:Int} {a d:Bytes} {nT k:Nat} {r:RecM} (hp0:0<=page) (hp1:page < P0.blocks) (ha:a.length=512) (hd:d.length=512) (hfin:L0.fin<=2000000000000000000) (hL0:L0.fin=L0.oldest+(408*(D0.n / 2) - 408) - L0.room/\L0.oldest<=L0.fin)
  (hroom:costM (recsM page a d)+(b0.owed+owesM (recsM page a d))<=L0.room) (ho0:0<=b0.owed) (h:PutS P0 L0 D0 b0 page a d was nT k b P L D R T) (hr:(recsM page a d)[k]?=some r) :
  (b.chg P L D r).2.2.2.2=0/\(∃ R' T',PutS P0 L0 D0 b0 page a d was nT (k+1) ((b.chg P L D r).1.did r) (b.chg P L D r).2.1 (b.chg P L D r).2.2.1 (b.chg P L D r).2.2.2.1 R' T')/\((b.app L r).2.2=0->LogG (b.app L r).2.1):=by
 obtain ⟨s,hs,er⟩:∃ s,(diffM a d)[k]?=some s/\spR page a d s=r:=by
  unfold recsM at hr
  rw [List.getElem?_map] at hr
  cases hx:(diffM a d)[k]? with
  | none=>rw [hx] at hr;simp at hr
  | some s=>rw [hx] at hr;exact ⟨s,rfl,by simpa using hr⟩
 obtain ⟨hk,e⟩:=List.getElem?_eq_some_iff.1 hs
 have hok:=(z6BQ a d).ok s (e▸List.getElem_mem hk)
 have hs1:=hok.1
 have hs2:=hok.2.1
 have la:(segB a s).length=s.2 - s.1:=z9LT (by omega)
 have ld:(segB d s).length=s.2 - s.1:=z9LT (by omega)
 have r1:r.kind=1:=by rw [<- er];rfl
 have r2:r.next=0:=by rw [<- er];rfl
 have r3:r.blk=page:=by rw [<- er];rfl
 have r4:r.off=s.1:=by rw [<- er];rfl
 have r5:r.old=segB a s:=by rw [<- er];rfl
 have r6:r.new=segB d s:=by rw [<- er];rfl
 have hc:=h.c
 have hn64:=hc.n64
 have hpb:=hc.pb
 have hbl:=h.bl
 have hfit:fitsM r:=by unfold fitsM;rw [r3,r4,r6,ld];omega
 have hro:=hc.room
 have hkn:=h.kp.n
 have hko:=h.kp.o
 have hct:=zeOg hr
 have hcle:=zEGV (recsM page a d) (fun x hx=>by
  unfold recsM at hx
  obtain ⟨u,hu,rfl⟩:=List.mem_map.1 hx
  have:=((z6BQ a d).ok u hu).2.1
  show (segB d u).length<=512
  rw [z9LT (by omega)];omega)
 have hdr:costM (recsM page a d)=costM ((recsM page a d).take (k+1))+costM ((recsM page a d).drop (k+1))/\owesM (recsM page a d)=owesM ((recsM page a d).take (k+1))+owesM ((recsM page a d).drop (k+1)):=by
  have app:∀ x y:List RecM,costM (x ++ y)=costM x+costM y/\owesM (x ++ y)=owesM x+owesM y:=by
   intro x y
   induction x with
   | nil=>simp [costM,owesM]
   | cons z x ih=>simp only [List.cons_append,costM,owesM,ih.1,ih.2];omega
  have:=app ((recsM page a d).take (k+1)) ((recsM page a d).drop (k+1))
  rw [List.take_append_drop] at this
  exact this
 have hnn:∀ l:List RecM,0<=costM l/\0<=owesM l:=by
  intro l
  induction l with
  | nil=>simp [costM,owesM]
  | cons z l ih=>simp only [costM,owesM];omega
 have hnn1:=hnn ((recsM page a d).drop (k+1))
 have hnn2:=hnn ((recsM page a d).take k)
 have hroomk:=h.room
 have hrn:(r.new.length:Int)=s.2 - s.1:=by rw [r6,ld];omega
 have hfl:L.fin<=2000000000013369344:=by omega
 have htx:=h.tx
 have ht0:=htx.tx0
 have ht1:=htx.tx1
 have hl0:=htx.l0
 have hl1:=htx.l1
 have hright:zZer (b.recL L r):=by
  obtain ⟨B,hL⟩:=hc.li
  have q1:=hL.t1
  have q2:=hL.t2
  refine ⟨by show 1<=L.fin;omega,by show L.fin<=topM;unfold topM;omega,q1,q2,⟨ht0,by show b.tx<=topM;unfold topM;omega⟩,⟨hl0,by show b.last<=topM;unfold topM;omega⟩,⟨by show 0<=r.next;omega,by show r.next<=topM;unfold topM;omega⟩,.inl ⟨r1,r2,hfit,by show r.old.length=r.new.length;rw [r5,r6,la,ld]⟩⟩
 have hsz:((encM (b.recL L r)).length:Int)=43+2*(r.new.length:Int):=by
  rw [zeQJ,if_neg (by show ¬ r.kind=2;rw [r1];decide),if_neg (by show ¬ r.new=[];intro c;rw [c] at hrn;simp at hrn;omega)]
  show ((35+0+(8+r.old.length+r.new.length):Nat):Int)=_
  rw [r5,r6,la,ld];omega
 obtain ⟨P',L',D',c1,c2,c3,c4,c5,c6,c7,c8⟩:=zz88 hc b r hright (.inl r1) (by rw [hsz];omega) (by omega) (by rw [r3,hbl];exact hp1)
 have hcl:(mixS a d ((diffM a d).take k)).length=512:=zD0j _ _ _
 have hcp:P.cur D page=mixS a d ((diffM a d).take k):=by rw [h.cur page hp0 hp1,if_pos rfl]
 have hlf:L.fin<=L'.fin:=by
  have:=c2.room
  have:=c3.o
  have:=c3.n
  omega
 refine ⟨by rw [c1],⟨R ++ [b.recL L r],b.recL L r :: T,?_⟩,c8⟩
 rw [c1]
 dsimp only
 refine ⟨c2,h.kp.trans c3,c4.trans hbl,?_,h.inT,h.cnt,fun p q0 q1=>?_,?_,?_,by rw [List.length_cons,h.nT];omega,?_⟩
 ·exact htx.push hc.lsnsLen c7 rfl (by omega) hlf hfit (by rw [r5,r6,la,ld]) (by rw [r3];exact hp1) (fun p q0 q1=>c5 p q0 (by rw [hbl];exact q1)) (fun p=>hc.curLen p) (fun j hj=>by
   rw [r3,hcp,r4,r5]
   rw [r5,la] at hj
   exact zn54 a d ha hs j (by omega)) _
 ·rw [c5 p q0 (by rw [hbl];exact q1)]
  unfold fwdR
  rw [r3]
  by_cases c:p=page
  ·rw [if_pos c,if_pos c,c,hcp,r4,r6,zS3g hs,<- zuug a d _ hs1 hs2 hd,z5uX (by rw [ld,zD0j];show s.1+(s.2 - s.1)<=512;omega)]
   rfl
  ·rw [if_neg c,if_neg c,h.cur p q0 q1,if_neg c]
 ·rw [c6,hsz,hroomk];omega
 ·show b.owed+(51+(r.new.length:Int))=_
  rw [h.owed];omega
 ·show b.owed+(51+(r.new.length:Int))=35+((51+(r.new.length:Int))+owesM T)
  rw [h.ow];omega
end
section
variable {w w' w1:World} {a:Adr} {P:PoolM} {L:LogM} {D:DevM}
def zVHS (first blocks most:Int):PoolM:=⟨first,blocks,most,0,[]⟩
theorem bPool (p q:Nat) (first blocks most:Int) (mb:Nat) (wz:World):(Instr.build 143 #[(0,.pointer (some ⟨p,0,none⟩)),(1,.pointer (some ⟨q,0,none⟩)),(2,.int .i64 first),(3,.int .i64 blocks),(4,.int .i64 most),(6,.map (some mb))]).run Tryz.prog wz =
  .ok (.agg #[.pointer (some ⟨p,0,none⟩),.pointer (some ⟨q,0,none⟩),.int .i64 first,.int .i64 blocks,.int .i64 most,.slice none 0 0,.int .i64 0,.map (some mb)]) wz:=run_build wz _ _ _ (by kernel_rfl)
set_option maxRecDepth 100000 in
set_option maxHeartbeats 1600000 in
theorem zywc {q p ms mo:Nat} {lv tv:Value} (h:LogS w q p ms mo lv tv L D) (hf:L.fin≠0) {first blocks most:Int} (f0:0<=first) (b0:1<=blocks) (fb:first+blocks<=D.n) (m0:8<=most) (m1:most<=1024) :
  Calls Tryz.prog 74 #[ptrV p,ptrV q,.int .i64 first,.int .i64 blocks,.int .i64 most] w fun e w'=>∃ a,e=.returned (ptrV a.pb)/\a.q=q/\a.p=p/\a.ms=ms/\a.mo=mo/\a.lv=lv/\a.tv=tv/\a.rv=.slice none 0 0/\a.xs=[]/\w.heap.size<=a.pb/\w.heap.size<=a.mb/\PoolS w' a (zVHS first blocks most) L D/\Kept (fun _=>False) w w':=by
 have H:=qh h
 have HB:=qh (zyYd h.dev)
 have HE:=qh (z4JP w q p lv tv L h.hq)
 have n0:=h.dev.n0
 have n1:=h.dev.n1
 have c1:¬ D.n=0:=by omega
 have c1b:(D.n == 0)=false:=by rw [beq_eq_false_iff_ne];exact c1
 have c2b:(L.fin == 0)=false:=by rw [beq_eq_false_iff_ne];exact hf
 have c3:¬ first < 0:=by omega
 have c4:¬ blocks < 1:=by omega
 have c5:¬ D.n < first:=by omega
 have c6:¬ D.n - first < blocks:=by omega
 have c7:¬ most < 8:=by omega
 have c8:¬ 1024 < most:=by omega
 have e2:IntKind.i64.wrap (D.n - first)=D.n - first:=by rw [IntKind.wrap_i64];omega
 have BP:=fun mb=>bPool p q first blocks most mb
 unfold ptrV
 clear h
 go_enter Tryz.func74,Tryz.ntmps74
 go_wp2_with fail
 refine HB.out.mono ?_
 rintro e wx ⟨rfl,rfl⟩
 go_wp2_with fail
 refine HE.out.mono ?_
 rintro e wx ⟨rfl,rfl⟩
 go_wp2_with (refine zrzo rfl 141 rfl ?_)
 intro mb w1 hm0 hm1 hmm hmk
 have BP1:=BP mb
 go_wp2_with (refine znBH rfl 143 _ rfl (.agg #[.pointer (some ⟨p,0,none⟩),.pointer (some ⟨q,0,none⟩),.int .i64 first,.int .i64 blocks,.int .i64 most,.slice none 0 0,.int .i64 0,.map (some mb)]) rfl ?_)
 intro pb w2 hp0 hp1 hpb hpk
 have HM:=qh (hmm.kept (w':=w2) hpk id)
 have HPB:=qh hpb
 have HK:=qh (hmk.trans0 hpk)
 have s1:=hmk.size
 clear BP BP1 hmm hmk hpb hpk
 go_wp2
 go_ret
 have l1:=zvKu H.out.dev.hp
 have l2:=H.out.dev.hs.lt
 have l3:=H.out.dev.ho.lt
 exact ⟨⟨pb,mb,q,p,ms,mo,lv,tv,.slice none 0 0,[]⟩,rfl,rfl,rfl,rfl,rfl,rfl,rfl,rfl,rfl,by show w.heap.size<=pb;omega,hm0,
  ⟨H.out.keep HK.out (fun _ _=>id),HPB.out,HM.out.ext (fun n=>rfl),World.ownsRow_nil _ _ _ _,(fun x hx=>by cases hx),rfl,List.nodup_nil,List.nodup_nil,(fun x hx=>by cases hx),⟨by show mb≠ms;omega,by show mb≠mo;omega⟩⟩,HK.out⟩
end
section
variable {D:DevM} {L:LogM} {R:List RecM} {B:Int->UInt8}
theorem zJzo (h:LogI D L R B) (hs:L.safe=L.fin):L.trim L.fin=({ L with oldest:=L.fin,lsns:=[] },0)/\LogI D { L with oldest:=L.fin,lsns:=[] } [] B:=by
 have hl:=h.llen
 have hfl:=h.flen
 have hf:findM L.lsns L.fin=L.lsns.length:=zhop _ _ _ (Nat.le_refl _) (fun t ht=>by
  have hk:t < R.length:=by omega
  have h1:=zUj0 h hk
  have h2:=zXpv h (k:=t+1) (by omega)
  rw [h1.1];omega) (fun t h1 h2=>by omega)
 have hfo:zVUo L.lsns L.fin=false:=by unfold zVUo;rw [hf];simp
 refine ⟨?_,?_⟩
 ·unfold LogM.trim
  rw [hf,hfo,if_neg (by rintro (⟨_,h1⟩ | h1);exact h1 rfl;omega),List.drop_length]
 ·refine { h with o1:=?_,so:=?_,room:=?_,rest:=?_,tail:=?_,recs:=trivial,lsns:=rfl,flat:=?_,sb:=⟨0,Nat.le_refl _,?_⟩ }
  ·show 1<=L.fin;have h1:=h.o1;have h2:=h.so;have h3:=h.sf;omega
  ·show L.fin<=L.safe;omega
  ·show L.fin - L.fin<=408*(L.count - 1);have:=h.c4;omega
  ·exact h.rest.trim (o':=L.fin) (by have h2:=h.so;have h3:=h.sf;omega) (by omega)
  ·exact zMy2 (o':=L.fin) h.tail (by have h2:=h.so;have h3:=h.sf;omega)
  ·show flatR []=stB B L.fin (L.fin - L.fin).toNat
   rw [show (L.fin - L.fin).toNat=0 by omega]
   exact (List.length_eq_zero_iff.1 (by rw [zvfb])).symm
  ·show L.safe=L.fin+(flatR ([]:List RecM)).length
   rw [hs];simp [flatR]
end
section
variable {D:DevM} {L:LogM} {R:List RecM} {B:Int->UInt8}
end
section
variable {P P' P0:PoolM} {L L' L0:LogM} {D D' D0:DevM} {R R' T:List RecM} {b b0:BkM} {cur was:Int->Bytes} {N:Int}
theorem zjw6 (h:CoreI P L D R):∃ D',L.force D=(zKV1 L,D',0)/\CoreI P (zKV1 L) D' R/\CoreK P L D P (zKV1 L) D'/\(∀ p,0<=p->p < P.blocks->P.cur D' p=P.cur D p):=by
 obtain ⟨B,hL⟩:=h.li
 obtain ⟨D',f1,f2,f3,f4,f5,f6⟩:=zi5U hL h.calm
 obtain ⟨m1,m2,m3,m4,m5,m6,m7⟩:=zvn3 L
 have hpi:=h.pi
 have hn:=h.n24
 have hlf:=h.lf
 have hlc:=h.lc
 have hpf:=h.pf
 have hpb:=h.pb
 have hlat:∀ p,0<=p->p < P.blocks->D'.latest (P.first+p)=D.latest (P.first+p):=fun p h0 h1=>f5 _ (by omega)
 refine ⟨D',f1,⟨⟨B,f4⟩,⟨hpi.f0,hpi.b1,by rw [f3];exact hpi.fn,by rw [f3];exact hpi.dn,by rw [m1,m2];exact hpi.ap,hpi.m8,hpi.m1,hpi.len,hpi.h0,hpi.h1,hpi.nd,fun f hf=>?_⟩,f2,h.free,h.pf,by rw [f3];exact h.pb,by rw [f3,m1];exact h.lf,by rw [f3,m2];exact h.lc,by rw [f3];exact h.n24,by rw [f3];exact h.n64⟩,⟨f3,m4,m3,f5 0 (by omega),f5 1 (by omega)⟩,fun p h0 h1=>?_⟩
 ·have hff:=hpi.fr f hf
  exact ⟨hff.1,hff.2.1,hff.2.2.1,hff.2.2.2.1,hff.2.2.2.2.1,by rw [m5];exact hff.2.2.2.2.2.1,fun hd=>by rw [hlat _ hff.1 hff.2.1];exact hff.2.2.2.2.2.2.1 hd,hff.2.2.2.2.2.2.2⟩
 ·unfold PoolM.cur
  cases P.ring[P.at p]? with
  | none=>exact hlat p h0 h1
  | some f=>rfl
theorem zCiw (L:LogM):(zKV1 L).room=L.room:=by
 obtain ⟨m1,m2,m3,m4,m5,m6,m7⟩:=zvn3 L
 unfold LogM.room;rw [m2,m4,m5]
theorem zvqe (h:CoreI P L D R):∃ P' L' D',flushM P L D=(P',L',D',0)/\CoreI P' L' D' R/\CoreK P L D P' L' D'/\Like P L D P' L' D'/\(∀ p,0<=p->p < P.blocks->P'.cur D' p=P.cur D p)/\(∀ f∈P'.ring,f.dirty=false)/\(∀ k,D'.opn k=none)/\(∀ p,0<=p->p < P.blocks->D'.latest (P.first+p)=P.cur D p):=by
 obtain ⟨B,hL⟩:=h.li
 obtain ⟨P',L',D',e,h4,h5,h6,h7,h8,h9,h10⟩:=z1ZU h.pi hL h.calm
 have hl:=h7.like
 have hp:=h.pf
 have hlf:=h.lf
 have hn:=h.n24
 exact ⟨P',L',D',e,⟨⟨B,h5⟩,h4,h6,fun p=>by rw [h7.held];exact h.free p,hl.pf.trans h.pf,by rw [hl.pb,hl.n];exact h.pb,by rw [hl.lf,hl.n];exact h.lf,by rw [hl.lc,hl.n];exact h.lc,by rw [hl.n];exact h.n24,by rw [hl.n];exact h.n64⟩,⟨hl.n,hl.lo,hl.lt,h7.out 0 (by omega) (by omega),h7.out 1 (by omega) (by omega)⟩,hl,h7.cur,h8,h9,h10⟩
theorem zuqq (h:CoreI P L D R) (hc:Calm D') (hn:D'.n=D.n) (hl:∀ k,2<=k->D'.latest k=D.latest k) (hlen:∀ k,(D'.latest k).length=512) (ho:∀ k,D'.opn k=none):CoreI P L D' R/\∀ p,0<=p->P.cur D' p=P.cur D p:=by
 obtain ⟨B,hL⟩:=h.li
 have hlf:=h.lf
 have hpf:=h.pf
 have h24:=h.n24
 have hsg:∀ k,(D'.safeG k).length=512:=fun k=>by rw [zFV1 (ho k)];exact hlen k
 have hpi:=h.pi
 have hlat:∀ p,0<=p->D'.latest (P.first+p)=D.latest (P.first+p):=fun p h0=>hl _ (by omega)
 refine ⟨⟨⟨B,hL.dev hn hc.d hlen hsg fun k h1 _=>⟨hl k (by omega),ho k⟩⟩,⟨hpi.f0,hpi.b1,by rw [hn];exact hpi.fn,by rw [hn];exact hpi.dn,hpi.ap,hpi.m8,hpi.m1,hpi.len,hpi.h0,hpi.h1,hpi.nd,fun f hf=>?_⟩,hc,h.free,h.pf,by rw [hn];exact h.pb,by rw [hn];exact h.lf,by rw [hn];exact h.lc,by rw [hn];exact h.n24,by rw [hn];exact h.n64⟩,fun p h0=>?_⟩
 ·have hff:=hpi.fr f hf
  exact ⟨hff.1,hff.2.1,hff.2.2.1,hff.2.2.2.1,hff.2.2.2.2.1,hff.2.2.2.2.2.1,fun hd=>by rw [hlat _ hff.1];exact hff.2.2.2.2.2.2.1 hd,hff.2.2.2.2.2.2.2⟩
 ·unfold PoolM.cur
  cases P.ring[P.at p]? with
  | none=>exact hlat p h0
  | some f=>rfl
theorem zycp (h:CoreI P L D R) (hs:L.safe=L.fin):∃ L',L.trim L.fin=(L',0)/\CoreI P L' D []/\L'.fin=L.fin/\L'.room=D.n / 2*408 - 408/\L'.turn=L.turn/\L'.oldest=L.fin:=by
 obtain ⟨B,hL⟩:=h.li
 obtain ⟨t1,t2⟩:=zJzo hL hs
 have hpi:=h.pi
 refine ⟨_,t1,⟨⟨B,t2⟩,⟨hpi.f0,hpi.b1,hpi.fn,hpi.dn,hpi.ap,hpi.m8,hpi.m1,hpi.len,hpi.h0,hpi.h1,hpi.nd,hpi.fr⟩,h.calm,h.free,h.pf,h.pb,h.lf,h.lc,h.n24,h.n64⟩,rfl,?_,rfl,rfl⟩
 show L.count*408 - 408 - (L.fin - L.fin)=_
 rw [h.lc];omega
structure NumB (b:BkM):Prop where
 tx:isI b.tx
 last:isI b.last
 o0:0<=b.owed
 o1:b.owed<=1000000000
 dl:b.done.length<=1000000
structure BkA where
 n:Int
 now:Int->Bytes
 was:Int->Bytes
 inT:Bool
 room:Int
 owed:Int
 chg:Nat
def BkA.pages (S:BkA):Int:=S.n - 2 - S.n / 2
structure BookI (g:Nat) (S:BkA) (b:BkM) (P:PoolM) (L:LogM) (D:DevM):Prop where
 n:D.n=S.n
 bt:b.inT=S.inT
 cnt:b.count=S.n / 2
 num:NumB b
 cur:∀ p,0<=p->p < S.pages->P.cur D p=S.now p
 room:L.room=S.room
 fin:L.fin<=100000000*((g:Int)+1)
 mas:∃ m,readMas D=(m,0)/\m.may/\m.seq<=g+10
 rest:∃ R,CoreI P L D R/\(S.inT=true->∃ T,TxI b P.blocks L R T (P.cur D) S.was/\b.owed=S.owed/\S.owed=35+owesM T/\S.owed<=S.room/\T.length=S.chg)
theorem BookI.pages {g:Nat} {S:BkA} (h:BookI g S b P L D):P.blocks=S.pages:=by
 obtain ⟨R,hc,-⟩:=h.rest
 have:=h.n
 unfold BkA.pages
 rw [hc.pb,this]
theorem BookI.len {g:Nat} {S:BkA} (h:BookI g S b P L D) {p:Int} (h0:0<=p) (h1:p < S.pages):(S.now p).length=512:=by
 obtain ⟨R,hc,-⟩:=h.rest
 rw [<- h.cur p h0 h1];exact hc.curLen p
theorem BookI.up {g g':Nat} {S:BkA} (h:BookI g S b P L D) (hg:g<=g'):BookI g' S b P L D:=by
 have:=h.fin
 obtain ⟨m,m1,m2,m3⟩:=h.mas
 exact { h with fin:=by omega,mas:=⟨m,m1,m2,by omega⟩ }
def BkA.begin (S:BkA):BkA×Int:=if S.inT=true then (S,7) else ({ S with inT:=true,was:=S.now,owed:=35,chg:=0,room:=if S.room < S.n / 2*204 then S.n / 2*408 - 408 else S.room },0)
def cstD (a d:Bytes):Int:=costM (recsM 0 a d)
def owsD (a d:Bytes):Int:=owesM (recsM 0 a d)
theorem zDyx (p:Int) (a d:Bytes):costM (recsM p a d)=cstD a d/\owesM (recsM p a d)=owsD a d:=by
 unfold cstD owsD recsM
 induction diffM a d with
 | nil=>exact ⟨rfl,rfl⟩
 | cons s l ih=>
  simp only [List.map_cons,costM,owesM]
  rw [ih.1,ih.2]
  exact ⟨rfl,rfl⟩
def updP (f:Int->Bytes) (p:Int) (d:Bytes):Int->Bytes:=fun q=>if q=p then d else f q
def BkA.put (S:BkA) (p:Int) (d:Bytes):BkA×Int:=
 if S.inT=false then (S,7) else if p < 0\/S.pages<=p then (S,6) else if d.length≠512 then (S,2) else
 if S.room < cstD (S.now p) d+(S.owed+owsD (S.now p) d) then (S,5) else
 ({ S with now:=updP S.now p d,room:=S.room - cstD (S.now p) d,owed:=S.owed+owsD (S.now p) d,chg:=S.chg+(diffM (S.now p) d).length },0)
def BkA.commit (S:BkA):BkA×Int:=if S.inT=false then (S,7) else ({ S with inT:=false,room:=S.room - 35,chg:=0 },0)
def BkA.abort (S:BkA):BkA×Int:=if S.inT=false then (S,7) else ({ S with inT:=false,now:=S.was,room:=S.room - S.owed,chg:=0 },0)
theorem BookI.frame {g:Nat} {S:BkA} (h:BookI g S b P L D) {page:Int} (p0:0<=page) (p1:page < S.pages) :
  ∃ P' L' D' i f,ziLQ P L D page=(P',L',D',i,0)/\P'.ring[i]?=some f/\f.b=S.now page/\BookI g S b P' L' D':=by
 obtain ⟨R,hc,ht⟩:=h.rest
 obtain ⟨P',L',D',i,f,e,h1,h2,h3,h4,h5,h6,h7⟩:=zRoj hc p0 (by rw [h.pages];exact p1)
 have hpb:=h6.pb
 have hcur:∀ p,0<=p->p < S.pages->P'.cur D' p=S.now p:=fun p q0 q1=>by rw [h7 p q0 (by rw [h.pages];exact q1)];exact h.cur p q0 q1
 have hroom:L'.room=L.room:=by unfold LogM.room;rw [h6.lc,h6.fin,h6.lo]
 refine ⟨P',L',D',i,f,e,h1,by rw [h3];exact h.cur page p0 p1,⟨h5.n.trans h.n,h.bt,h.cnt,h.num,hcur,hroom.trans h.room,by rw [h6.fin];exact h.fin,?_,R,h4,fun hT=>?_⟩⟩
 ·obtain ⟨m,m1,m2⟩:=h.mas
  exact ⟨m,by rw [zsJw (h4.calm.d.trans hc.calm.d.symm) h5.b0 h5.b1];exact m1,m2⟩
 ·obtain ⟨T,t1,t2⟩:=ht hT
  refine ⟨T,⟨t1.tx0,by rw [h6.fin];exact t1.tx1,t1.l0,by rw [h6.fin];exact t1.l1,t1.done,fun r hr=>(t1.has r hr).lsns h6.lsns,fun r hr=>?_,fun p q0 q1=>?_⟩,t2⟩
  ·rw [hpb,h6.fin];exact t1.ok r hr
  ·rw [hpb] at q1
   rw [<- t1.und p q0 q1]
   exact zVL5 T (N:=P.blocks) h7 p q0 q1
end
section
variable {w w':World} {x:BAdr} {P P' P0:PoolM} {L L' L0:LogM} {D D' D0:DevM} {R R' T:List RecM} {b b0:BkM} {cur was:Int->Bytes} {N:Int}
theorem zEWK (p:Int) (a d:Bytes):(recsM p a d).length=(diffM a d).length:=by unfold recsM;rw [List.length_map]
theorem PutS.num {page:Int} {a d:Bytes} {nT k:Nat} (h:PutS P0 L0 D0 b0 page a d was nT k b P L D R T) (hr:b.owed<=L.room):NumB b:=by
 have h1:=h.tx
 have h2:=h.c.room
 have h3:=h.ow
 have h4:=znu2 T
 have h5:=h1.len
 obtain ⟨B,hL⟩:=h.c.li
 have h6:=hL.fm
 exact ⟨zMa1 h1.tx0 h1.tx1 h6,zMa1 h1.l0 h1.l1 h6,by omega,by omega,by omega⟩
theorem zzs5 {g:Nat} {S:BkA} (h:BookI g S b P L D) (hg:g<=1000000000) (page:Int) (d:Bytes) :
  (∃ b' P' L' D',putM b P L D page d=(b',P',L',D',(S.put page d).2)/\BookI (g+1) (S.put page d).1 b' P' L' D') /\
  ((ziLQ P L D page).2.2.2.2=0->LogOk (ziLQ P L D page).2.1 /\ -1000000000<=(ziLQ P L D page).2.1.room/\(ziLQ P L D page).2.1.room<=1000000000) /\
  (b.inT=true->d.length=512->(ziLQ P L D page).2.2.2.2=0->¬ (ziLQ P L D page).2.1.room < costM (recsM page (zBuV (ziLQ P L D page)) d)+(b.owed+owesM (recsM page (zBuV (ziLQ P L D page)) d))->∃ J,PutJ (recsM page (zBuV (ziLQ P L D page)) d) J/\J 0 b (ziLQ P L D page).1 (ziLQ P L D page).2.1 (ziLQ P L D page).2.2.1):=by
 have hp:=h.pages
 by_cases hpg:page < 0\/S.pages<=page
 ·have hf:ziLQ P L D page=(P,L,D,0,6):=by unfold ziLQ;rw [if_pos (by rw [hp];exact hpg)]
  refine ⟨?_,fun hc=>by rw [hf] at hc;exact absurd (show (6:Int)=0 from hc) (by decide),fun _ _ hc=>by rw [hf] at hc;exact absurd (show (6:Int)=0 from hc) (by decide)⟩
  unfold putM BkA.put
  rw [h.bt]
  by_cases c:S.inT=false
  ·rw [if_pos c,if_pos c];exact ⟨b,P,L,D,rfl,h.up (by omega)⟩
  ·rw [if_neg c,if_neg c,if_pos (by rw [hp];exact hpg),if_pos hpg];exact ⟨b,P,L,D,rfl,h.up (by omega)⟩
 ·have p0:0<=page:=by omega
  have p1:page < S.pages:=by omega
  obtain ⟨P1,L1,D1,i,f,hf,h1,h2,h3⟩:=h.frame p0 p1
  have hfb:zBuV (P1,L1,D1,i,(0:Int))=S.now page:=by unfold zBuV;dsimp only;rw [h1];exact h2
  obtain ⟨R,hc,ht⟩:=h3.rest
  have hro:=hc.room
  have hnum:=h.num
  have hfin:=h3.fin
  rw [hf,hfb]
  dsimp only
  have hla:=h.len p0 p1
  obtain ⟨q1,q2⟩:=zDyx page (S.now page) d
  have hpg3:=h3.pages
  have hgo:S.inT=true->d.length=512->¬ S.room < cstD (S.now page) d+(S.owed+owsD (S.now page) d)->∃ J:Nat->BkM->PoolM->LogM->DevM->Prop,PutJ (recsM page (S.now page) d) J/\J 0 b P1 L1 D1/\∃ b' P' L' D',zkcY (recsM page (S.now page) d) b P1 L1 D1=(b',P',L',D',0) /\
    BookI (g+1) ({ S with now:=updP S.now page d,room:=S.room - cstD (S.now page) d,owed:=S.owed+owsD (S.now page) d,chg:=S.chg+(diffM (S.now page) d).length }) b' P' L' D':=by
   intro hT hd hrm
   obtain ⟨T,t1,t2,t3,t4,t5⟩:=ht hT
   have hTn:=znu2 T
   have hr1:L1.room=S.room:=h3.room
   have hcost:costM (recsM page (S.now page) d)+(b.owed+owesM (recsM page (S.now page) d))<=L1.room:=by rw [q1,q2,t2,hr1];omega
   have hfin2:L1.fin<=2000000000000000000:=by omega
   have hstep:=fun (k:Nat) (b':BkM) (P':PoolM) (L':LogM) (D':DevM) (r:RecM) (R' T':List RecM) (hS:PutS P1 L1 D1 b page (S.now page) d S.was S.chg k b' P' L' D' R' T') (hr:(recsM page (S.now page) d)[k]?=some r)=>
    zBxx (b0:=b) p0 (by rw [hpg3];exact p1) hla hd hfin2 ⟨hro.2.2.1,hro.2.2.2.2⟩ hcost hnum.o0 hS hr
   have h0:PutS P1 L1 D1 b page (S.now page) d S.was S.chg 0 b P1 L1 D1 R T:=by
    refine ⟨hc,.refl _ _ _,rfl,t1,by rw [h.bt];exact hT,rfl,fun p z0 z1=>?_,by simp [costM],by simp [owesM],by simpa using t5,by rw [t2,t3]⟩
    rw [List.take_zero,zzc0 d hla]
    by_cases c:p=page
    ·rw [if_pos c,c];exact h3.cur page p0 p1
    ·rw [if_neg c]
   have hroomk:∀ (k:Nat) (b':BkM) (P':PoolM) (L':LogM) (D':DevM) (R' T':List RecM),PutS P1 L1 D1 b page (S.now page) d S.was S.chg k b' P' L' D' R' T'->b'.owed<=L'.room:=by
    intro k b' P' L' D' R' T' hS
    have app:∀ x y:List RecM,costM (x ++ y)=costM x+costM y/\owesM (x ++ y)=owesM x+owesM y:=by
     intro x y
     induction x with
     | nil=>simp [costM,owesM]
     | cons z x ih=>simp only [List.cons_append,costM,owesM,ih.1,ih.2];omega
    have hnn:∀ l:List RecM,0<=costM l/\0<=owesM l:=by
     intro l
     induction l with
     | nil=>simp [costM,owesM]
     | cons z l ih=>simp only [costM,owesM];omega
    have e:=app ((recsM page (S.now page) d).take k) ((recsM page (S.now page) d).drop k)
    rw [List.take_append_drop] at e
    have e1:=hnn ((recsM page (S.now page) d).drop k)
    have e2:=hS.room
    have e3:=hS.owed
    omega
   obtain ⟨J,hJ⟩:∃ J:Nat->BkM->PoolM->LogM->DevM->Prop,J=fun k b' P' L' D'=>∃ R' T',PutS P1 L1 D1 b page (S.now page) d S.was S.chg k b' P' L' D' R' T':=⟨_,rfl⟩
   refine ⟨J,⟨fun k b' P' L' D' r hS hr=>?_,fun k b' P' L' D' r hS hr _=>?_⟩,by rw [hJ];exact ⟨R,T,h0⟩,?_⟩
   ·rw [hJ] at hS
    obtain ⟨R',T',hS⟩:=hS
    have hn:=hS.num (hroomk k b' P' L' D' R' T' hS)
    exact ⟨hS.c.bkg,⟨hn.tx,hn.last⟩,hn.dl,⟨hn.o0,hn.o1⟩,(hstep k b' P' L' D' r R' T' hS hr).2.2⟩
   ·rw [hJ] at hS ⊢
    obtain ⟨R',T',hS⟩:=hS
    exact (hstep k b' P' L' D' r R' T' hS hr).2.1
   ·obtain ⟨b',P',L',D',e1,R',T',e2⟩:=zbJD (rs:=recsM page (S.now page) d) (J:=fun k b' P' L' D'=>∃ R' T',PutS P1 L1 D1 b page (S.now page) d S.was S.chg k b' P' L' D' R' T') (fun k b' P' L' D' r hS hr=>by
     obtain ⟨R',T',hS⟩:=hS
     have hst:=hstep k b' P' L' D' r R' T' hS hr
     exact ⟨hst.1,hst.2.1⟩) (recsM page (S.now page) d).length 0 b P1 L1 D1 (by omega) ⟨R,T,h0⟩
    rw [List.drop_zero] at e1
    refine ⟨b',P',L',D',e1,?_⟩
    have hrm2:=hroomk _ _ _ _ _ _ _ e2
    have hro2:=e2.room
    have how2:=e2.owed
    rw [List.take_length,q1] at hro2
    rw [List.take_length,q2] at how2
    have hk:=e2.kp
    have hbl:=e2.bl
    have hR2:=e2.c.room
    have hko:=hk.o
    have hkn:=hk.n
    refine ⟨hk.n.trans h3.n,e2.inT.trans hT.symm,e2.cnt.trans h.cnt,e2.num hrm2,fun p z0 z1=>?_,by rw [hro2,hr1],?_,?_,R',e2.c,fun _=>⟨T',?_,?_,?_,?_,?_⟩⟩
    ·rw [e2.cur p z0 (by rw [hpg3];exact z1),zEWK,List.take_length,zwo2 hd (z6BQ _ _)]
     show (if p=page then d else P1.cur D1 p)=if p=page then d else S.now p
     by_cases c:p=page
     ·rw [if_pos c,if_pos c]
     ·rw [if_neg c,if_neg c];exact h3.cur p z0 z1
    ·omega
    ·obtain ⟨m,m1,m2,m3⟩:=h3.mas
     exact ⟨m,by rw [zsJw (e2.c.calm.d.trans hc.calm.d.symm) hk.b0 hk.b1];exact m1,m2,by omega⟩
    ·rw [hbl];exact e2.tx
    ·rw [how2,t2]
    ·show S.owed+owsD (S.now page) d=_
     rw [<- e2.ow,how2,t2]
    ·show S.owed+owsD (S.now page) d<=S.room - cstD (S.now page) d
     omega
    ·rw [e2.nT,zEWK]
  have hTb:b.inT=S.inT:=h.bt
  refine ⟨?_,fun _=>⟨hc.g.ok,by omega,by omega⟩,fun hT hd _ hrm=>?_⟩
  ·unfold putM BkA.put
   rw [hTb]
   by_cases c:S.inT=false
   ·rw [if_pos c,if_pos c];exact ⟨b,P,L,D,rfl,h.up (by omega)⟩
   ·rw [if_neg c,if_neg c,if_neg (by rw [hp];exact hpg),if_neg hpg]
    have hT:S.inT=true:=by simpa using c
    by_cases c2:d.length≠512
    ·rw [if_pos c2,if_pos c2];exact ⟨b,P,L,D,rfl,h.up (by omega)⟩
    ·rw [if_neg c2,if_neg c2,hf]
     dsimp only
     rw [if_neg (fun hz=>hz rfl),hfb,q1,q2,h3.room]
     obtain ⟨T,t1,t2,-⟩:=ht hT
     rw [t2]
     by_cases c3:S.room < cstD (S.now page) d+(S.owed+owsD (S.now page) d)
     ·rw [if_pos c3,if_pos c3]
      exact ⟨b,P1,L1,D1,rfl,h3.up (by omega)⟩
     ·rw [if_neg c3,if_neg c3]
      obtain ⟨J,_,_,b',P',L',D',e1,e2⟩:=hgo hT (by omega) c3
      exact ⟨b',P',L',D',e1,e2⟩
  ·have hT':S.inT=true:=by rw [<- hTb];exact hT
   obtain ⟨T,t1,t2,-⟩:=ht hT'
   rw [q1,q2,t2,h3.room] at hrm
   obtain ⟨J,j1,j2,-⟩:=hgo hT' hd hrm
   exact ⟨J,j1,j2⟩
def BkW (w:World) (x:BAdr) (S:BkA) (g:Nat):Prop:=∃ b P L D,BookS w x b P L D/\BookI g S b P L D
theorem BkW.keep0 {S:BkA} {g:Nat} (h:BkW w x S g) (hk:Kept (fun _=>False) w w'):BkW w' x S g:=by
 obtain ⟨b,P,L,D,h1,h2⟩:=h
 exact ⟨b,P,L,D,h1.keep0 hk,h2⟩
theorem BkW.keep {S:BkA} {g:Nat} {K:Nat->Prop} (h:BkW w x S g) (hk:Kept K w w') (hn:∀ z,x.K z->¬ K z):BkW w' x S g:=by
 obtain ⟨b,P,L,D,h1,h2⟩:=h
 exact ⟨b,P,L,D,h1.keep hk hn,h2⟩
theorem BkW.up {S:BkA} {g g':Nat} (h:BkW w x S g) (hg:g<=g'):BkW w x S g':=by
 obtain ⟨b,P,L,D,h1,h2⟩:=h
 exact ⟨b,P,L,D,h1,h2.up hg⟩
theorem BookI.bkg {g:Nat} {S:BkA} (h:BookI g S b P L D):BkG P L D:=by obtain ⟨R,hc,-⟩:=h.rest;exact hc.bkg
def APost (w:World) (x:BAdr) (V:BkA×Int) (g:Nat) (e:Ending) (w':World):Prop:=e=.returned (.int .i64 V.2)/\∃ x',BTo w x w' x'/\BkW w' x' V.1 g
theorem zvUq {S:BkA} {g:Nat} (h:BkW w x S g) (hg:g<=1000000000) (page:Int) (A:Option Addr) (c:Nat) (data:Bytes) (hrd:RdB w A data) (hmK:∀ b o,A=some ⟨b,o,none⟩->b < w.heap.size->¬ x.K b) (hc:data.length<=c) (hc2:c<=9223372036854775807) (hdl:data.length<=1000000) (hpg:isI page) :
  Calls Tryz.prog 25 #[ptrV x.bk,.int .i64 page,.slice A data.length c] w (APost w x (S.put page data) (g+1)):=by
 obtain ⟨b,P,L,D,h1,h2⟩:=h
 obtain ⟨⟨b',P',L',D',v1,v2⟩,v3,v4⟩:=zzs5 h2 hg page data
 have hn:=h2.num
 refine (zK5S h1 h2.bkg page A c data hrd hmK hc hc2 hdl hpg ⟨hn.o0,hn.o1⟩ v3 v4).mono ?_
 rintro e w' ⟨e1,x',e2,e3⟩
 rw [v1] at e1 e3
 exact ⟨e1,x',e2,b',P',L',D',e3,v2⟩
def z5Jn (w:World) (x:BAdr) (S:BkA) (g:Nat) (page:Int) (e:Ending) (w':World):Prop:=∃ x',BTo w x w' x'/\BkW w' x' S g /\
 ((page < 0\/S.pages<=page)/\e=.returned (.tuple #[.slice none 0 0,.int .i64 6]) \/
  (0<=page/\page < S.pages)/\∃ y c,(S.now page).length=512/\e=.returned (.tuple #[.slice (some ⟨y,0,none⟩) 512 c,.int .i64 0])/\OwnB w' w.heap.size y c (S.now page)/\¬ x'.K y)
theorem zqnz {S:BkA} {g:Nat} (h:BkW w x S g) (page:Int):Calls Tryz.prog 23 #[ptrV x.bk,.int .i64 page] w (z5Jn w x S g page):=by
 obtain ⟨b,P,L,D,h1,h2⟩:=h
 refine (znuN h1 h2.bkg page).mono ?_
 rintro e w' ⟨e1,e2⟩
 have hp:=h2.pages
 by_cases hpg:page < 0\/S.pages<=page
 ·have hf:ziLQ P L D page=(P,L,D,0,6):=by unfold ziLQ;rw [if_pos (by rw [hp];exact hpg)]
  rw [hf] at e1
  obtain ⟨r1,x',r2,r3⟩:=e1 (show (6:Int)≠0 by decide)
  exact ⟨x',r2,⟨b,P,L,D,r3,h2⟩,.inl ⟨hpg,r1⟩⟩
 ·have p0:0<=page:=by omega
  have p1:page < S.pages:=by omega
  obtain ⟨P1,L1,D1,i,f,hf,q1,q2,q3⟩:=h2.frame p0 p1
  rw [hf] at e2
  obtain ⟨x',f',y,c,r1,r2,r3,r4,r5,r6,r7⟩:=e2 rfl
  dsimp only at r3
  rw [q1] at r3
  have ef:f'=f:=(Option.some.inj r3).symm
  rw [ef,q2] at r6
  exact ⟨x',r1,⟨b,P1,L1,D1,r2,q3⟩,.inr ⟨⟨p0,p1⟩,y,c,h2.len p0 p1,r5,r6,r7⟩⟩
theorem zQfR {S:BkA} {g:Nat} (h:BkW w x S g):Calls Tryz.prog 29 #[ptrV x.bk] w fun e w'=>e=.returned (.int .i64 S.pages)/\w=w':=by
 obtain ⟨b,P,L,D,h1,h2⟩:=h
 rw [<- h2.pages]
 exact zPnn h1
theorem zKxU {S:BkA} {g:Nat} (h:BkW w x S g):Calls Tryz.prog 65 #[ptrV x.bk] w fun e w'=>e=.returned (.bool S.inT)/\w=w':=by
 obtain ⟨b,P,L,D,h1,h2⟩:=h
 rw [<- h2.bt]
 exact znSa h1
end
end Go.Proofs.YtfgagakepmigbaaGreat
