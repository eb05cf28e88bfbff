/-
  No statement is proved here.
-/
import Derived.Test.YtnbfhdgojmflhaaJQrb
namespace Go.Proofs.Ytnbfhdgojmflhaa
open Go.RowKit
section
variable {w w' w1:World} {a:Adr} {P:PoolM} {L:LogM} {D:DevM}
def rigL0:LogM:=⟨0,12,1,1,1,1,[],[],1⟩
theorem bRig (p q b:Nat) (wz:World):(Instr.build 28 #[(0,.pointer (some ⟨p,0,none⟩)),(1,.pointer (some ⟨q,0,none⟩)),(2,.pointer (some ⟨b,0,none⟩))]).run Try.prog wz=.ok (.agg #[.pointer (some ⟨p,0,none⟩),.pointer (some ⟨q,0,none⟩),.pointer (some ⟨b,0,none⟩)]) wz:=run_build wz _ _ _ (by kernel_rfl)
set_option maxRecDepth 100000 in
set_option maxHeartbeats 1600000 in
theorem zw8r (w:World) (pages frames:Int) (p1:1<=pages) (p2:pages<=60000) (f0:8<=frames) (f1:frames<=1024) (ho:openM (newM (12+pages)) 0 12 1 1=(some rigL0,newM (12+pages),0)) (hc:(zoel (newM (12+pages)) 0 12 1 4488 4489 1 0 []).1.length<=1000000) :
  Calls Try.prog 7 #[.int .i64 pages,.int .i64 frames] w fun e w'=>∃ rg a,e=.returned (ptrV rg)/\RigS w' rg a (zVHS 12 pages frames) rigL0 (newM (12+pages))/\Kept (fun _=>False) w w'/\w.heap.size<=rg/\∀ x,a.K x->w.heap.size<=x:=by
 have e2:IntKind.i64.wrap (12+pages)=12+pages:=by rw [IntKind.wrap_i64];omega
 have e1:wrap64 (12+pages)=12+pages:=by unfold wrap64;omega
 obtain ⟨N,hN⟩:∃ N,N=12+pages:=⟨_,rfl⟩
 rw [<- hN] at ho hc e1 e2 ⊢
 have HO:=qh ho
 have HC:=qh hc
 have HN:=qh hN
 have BR:=bRig
 clear ho hc
 go_enter Try.func7,Try.ntmps7
 rw [HN.out] at e1 e2
 go_wp2_with (go_at_call 18;refine (zAkz _ (by omega) (by omega) _).mono ?_;rintro e w2 ⟨p,ms,mo,rfl,hD,hk2,lp,lms,lmo⟩)
 rw [<- HN.out] at hD ⊢
 have HOP:=qh (show Calls Try.prog 19 #[.pointer (some ⟨p,0,none⟩),.int .i64 0,.int .i64 12,.int .i64 1,.int .i64 1] w2 (zM8s w2 p ms mo (some rigL0,newM N,0)) from by
  have:=ztLr w2 p ms mo (newM N) hD 0 12 1 1 (by unfold badM newM;dsimp only;omega) (by rw [show ((12:Int)*408 - 408).toNat=4488 from rfl];exact HC.out)
  rwa [HO.out] at this)
 have HK2:=qh hk2
 clear hD hk2
 go_wp2_with fail
 refine HOP.out.mono ?_
 intro e w3 hp3
 obtain ⟨hk3,-,hy⟩:=hp3
 obtain ⟨q,lv,tv,rfl,hs3,hq,hlv,htv⟩:=hy rigL0 rfl
 have HS3:=qh hs3
 have hk23:Kept (fun _=>False) w w3:=HK2.out.new hk3 (fun x hx=>by rcases hx with rfl | rfl | rfl<;>omega)
 have HK3:=qh hk23
 have HPN:=qh (zywc hs3 (by decide) (first:=12) (blocks:=pages) (most:=frames) (by omega) p1 (by show 12+pages<=N;rw [HN.out];omega) f0 f1)
 have hsz2:=HK2.out.size
 have HFR:=qh (show ∀ x,LogK q p ms mo lv tv x->w.heap.size<=x from by
  rintro x (rfl | rfl | rfl | rfl | h | h)
  ·omega
  ·exact lp
  ·exact lms
  ·exact lmo
  ·have:=hlv x h;omega
  ·have:=htv x h;omega)
 clear hy hs3 hk3 hk23 hq hlv htv HOP
 unfold ptrV at HPN
 go_wp2_with fail
 refine HPN.out.mono ?_
 rintro e w4 ⟨a,rfl,aq,ap,ams,amo,alv,atv,arv,axs,lpb,lmb,hs4,hk4⟩
 have HS4:=qh hs4
 have HK4:=qh (HK3.out.trans0 hk4)
 have BR1:=BR p q a.pb
 go_wp2_with (refine znBH rfl 28 _ rfl (.agg #[.pointer (some ⟨p,0,none⟩),.pointer (some ⟨q,0,none⟩),.pointer (some ⟨a.pb,0,none⟩)]) rfl ?_)
 intro rg w5 l1 l2 hb5 hk5
 have hsz3:=HK3.out.size
 have hsz4:=HK4.out.size
 have HR:=qh (show RigS w5 rg a (zVHS 12 pages frames) rigL0 (newM N) from ⟨HS4.out.keep0 hk5,by
  have e:rigC a=#[.pointer (some ⟨p,0,none⟩),.pointer (some ⟨q,0,none⟩),.pointer (some ⟨a.pb,0,none⟩)]:=by unfold rigC ptrV;rw [ap,aq]
  rw [e];exact hb5⟩)
 have HK5:=qh (HK4.out.trans0 hk5)
 clear hs4 hk4 hb5 hk5 BR BR1
 go_wp2
 go_ret
 refine ⟨rg,a,rfl,HR.out,HK5.out,by omega,?_⟩
 rintro x (hx | rfl | rfl | hx | ⟨y,hy,_⟩)
 ·refine HFR.out x ?_
  unfold Adr.logK at hx
  rw [aq,ap,ams,amo,alv,atv] at hx
  exact hx
 ·omega
 ·omega
 ·rw [arv] at hx;cases hx
 ·rw [axs] at hy;cases hy
end
structure RigI (P:PoolM) (L:LogM) (D:DevM):Prop where
 li:∃ R B,LogI D L R B
 pi:PoolI P L D
 calm:Calm D
 free:∀ p,P.heldOf p=0
 l0:L.first=0
 l12:L.count=12
 p12:P.first=12
section
variable {P P':PoolM} {L L':LogM} {D D':DevM}
theorem RigI.held (h:RigI P L D) {f:FrM} (hf:f∈P.ring):f.held=0:=by rw [<- zN5k h.pi.nd hf];exact h.free _
theorem RigI.g (h:RigI P L D):LogG L:=by obtain ⟨R,B,hL⟩:=h.li;exact hL.g
theorem RigI.len (h:RigI P L D) (k:Int):(D.latest k).length=512:=by obtain ⟨R,B,hL⟩:=h.li;exact hL.len k
theorem RigI.keeps (h:RigI P L D) (hp:PoolI P' L' D') (hl:∃ R B,LogI D' L' R B) (hc:Calm D') (hk:Keeps P L D P' L' D'):RigI P' L' D':=
 ⟨hl,hp,hc,fun p=>by rw [hk.held];exact h.free p,by rw [hk.like.lf];exact h.l0,by rw [hk.like.lc];exact h.l12,by rw [hk.like.pf];exact h.p12⟩
theorem zRW5 (h:RigI P L D) {page:Int} (p0:0<=page) (p1:page < P.blocks) :
  ∃ P' L' D' i f,ziLQ P L D page=(P',L',D',i,0)/\P'.ring[i]?=some f/\f.page=page/\f.b=P.cur D page/\RigI P' L' D'/\Keeps P L D P' L' D':=by
 obtain ⟨R,B,hL⟩:=h.li
 rcases zQlR h.pi hL h.calm p0 p1 with ⟨P',L',D',i,f,e,h1,h2,h3,_,h4,h5,h6,h7,_⟩ | ⟨P',e,_,_,h3,h4⟩
 ·exact ⟨P',L',D',i,f,e,h1,h2,h3,h.keeps h4 ⟨R,B,h5⟩ h6 h7,h7⟩
 ·have m8:=h.pi.m8
  cases hr:P.ring with
  | nil=>rw [hr] at h4;simp at h4;omega
  | cons f _=>
   have hf:f∈P.ring:=by rw [hr];simp
   have h5:=(h3 f hf).1
   have h6:=h.held hf
   omega
theorem zV7e (h:RigI P L D) {page off lsn:Int} {m:Bytes} (p0:0<=page) (p1:page < P.blocks) (o0:0<=off) (m0:m≠[]) (o1:off+m.length<=512) (l1:1<=lsn) (l2:lsn < L.fin) :
  ∃ P' L' D',zpi7 P L D page off m lsn=(P',L',D',0)/\RigI P' L' D'/\(∀ p,0<=p->p < P.blocks->P'.cur D' p=if p=page then layO (P.cur D page) off.toNat m else P.cur D p)/\Like P L D P' L' D' /\
   ∃ P1 i,(ziLQ P L D page).1=P1/\(ziLQ P L D page).2.2.2.2=0/\P'.ring.length=P1.ring.length/\P'.ring.map (·.page)=P1.ring.map (·.page)/\(ziLQ P L D page).2.2.2.1=i:=by
 obtain ⟨P',L',D',i,f,e,h1,h2,h3,h4,h5⟩:=zRW5 h p0 p1
 have hl:=h5.like
 have hm0:0 < m.length:=List.length_pos_iff.2 m0
 have hlen:f.b.length=512:=(h4.pi.fr f (List.mem_of_getElem? h1)).2.2.1
 have hf:=h4.pi.fr f (List.mem_of_getElem? h1)
 obtain ⟨g,hg⟩:∃ g:FrM,g={ f with b:=layO f.b off.toNat m,last:=max f.last lsn,dirty:=true,first:=if f.dirty then f.first else lsn }:=⟨_,rfl⟩
 have hfin:=hl.fin
 have he:=z8pm h4.pi h1 (g:=g) (by rw [hg]) (by rw [hg]) (by rw [hg];show (layO f.b off.toNat m).length=512;rw [zTAh (by omega)];exact hlen) (by rw [hg];show 0<=max f.last lsn;omega) (by rw [hg];show max f.last lsn < L'.fin;have:=hf.2.2.2.2.2.1;omega) (by rw [hg])
  (by
    rw [hg];show 1<=(if f.dirty=true then f.first else lsn)
    split
    ·rename_i hd;exact hf.2.2.2.2.2.2.2 hd
    ·exact l1)
 refine ⟨{ P' with ring:=P'.ring.set i g },L',D',?_,⟨h4.li,he.1,h4.calm,fun p=>by rw [he.2.2];exact h4.free p,h4.l0,h4.l12,h4.p12⟩,fun p q0 q1=>?_,⟨hl.pf,hl.pb,hl.pm,hl.lf,hl.lc,hl.lt,hl.lo,hl.fin,hl.safe,hl.n,hl.lsns⟩,P',i,by rw [e],by rw [e],by show (P'.ring.set i g).length=_;rw [List.length_set],by show (P'.ring.set i g).map (·.page)=_;exact zBCX h1 (by rw [hg]),by rw [e]⟩
 ·unfold zpi7
  rw [if_neg (by omega),if_neg (by
   rintro (c | c | c | c | c | c)
   ·omega
   ·omega
   ·exact m0 c
   ·omega
   ·omega
   ·omega),e]
  dsimp only
  rw [if_neg (fun h=>h rfl),h1,hg]
 ·rw [he.2.1,h2]
  by_cases c:p=page
  ·rw [if_pos c,if_pos c,hg]
   show layO f.b off.toNat m=_
   rw [h3]
  ·rw [if_neg c,if_neg c]
   exact h5.cur p q0 q1
theorem zqSn (h:RigI P L D) (r:RecM) (hr:zZer { r with lsn:=L.fin,turn:=L.turn }) (hfm:L.fin<=2999999999999000000) :
  ∃ L' D',app1M L D r=(L',D',L.fin)/\RigI P L' D'/\(∀ p,0<=p->P.cur D' p=P.cur D p)/\L.fin < L'.fin/\L'.fin<=L.fin+1075/\L'.turn=L.turn/\D'.n=D.n:=by
 obtain ⟨R,B,hL⟩:=h.li
 obtain ⟨L',D',R',B',e,h1,h2,h3,h4,h5,h6,h7,h8,h9,h10⟩:=zfh4 hL h.calm r hr hfm
 have hlat:∀ p,0<=p->D'.latest (P.first+p)=D.latest (P.first+p):=fun p hp=>h10 _ (by have:=h.l0;have:=h.l12;have:=h.p12;omega)
 have hcur:∀ p,0<=p->P.cur D' p=P.cur D p:=fun p hp=>by
  unfold PoolM.cur
  cases P.ring[P.at p]? with
  | none=>exact hlat p hp
  | some f=>rfl
 have hpi:=h.pi
 refine ⟨L',D',e,⟨⟨R',B',h1⟩,⟨hpi.f0,hpi.b1,by rw [h3];exact hpi.fn,by rw [h3];exact hpi.dn,by rw [h4,h5];exact hpi.ap,hpi.m8,hpi.m1,hpi.len,hpi.h0,hpi.h1,hpi.nd,fun f hf=>?_⟩,h2,h.free,h4.trans h.l0,h5.trans h.l12,h.p12⟩,hcur,h7,h8,h6,h3⟩
 have hff:=hpi.fr f hf
 exact ⟨hff.1,hff.2.1,hff.2.2.1,hff.2.2.2.1,hff.2.2.2.2.1,by have:=hff.2.2.2.2.2.1;omega,fun hd=>by rw [hlat _ hff.1];exact hff.2.2.2.2.2.2.1 hd,hff.2.2.2.2.2.2.2⟩
theorem zC9J (h:RigI P L D) {page:Int} (p0:0<=page) (p1:page < P.blocks):P.ring.length<=(ziLQ P L D page).1.ring.length/\((∀ f∈P.ring,f.page≠page)->(P.ring.length:Int) < P.most->(ziLQ P L D page).1.ring.length=P.ring.length+1) /\
  ∀ g∈(ziLQ P L D page).1.ring,g.page=page\/∃ f∈P.ring,f.page=g.page:=by
 unfold ziLQ
 rw [if_neg (by omega)]
 dsimp only
 cases hx:P.ring[P.at page]? with
 | some f=>
  dsimp only
  refine ⟨by simp,fun hno _=>absurd (zyH5 hx) (hno f (List.mem_of_getElem? hx)),fun g hg=>?_⟩
  rcases zunS hg with rfl | ⟨j,_,hj⟩
  ·exact .inr ⟨f,List.mem_of_getElem? hx,rfl⟩
  ·exact .inr ⟨g,List.mem_of_getElem? hj,rfl⟩
 | none=>
  dsimp only
  by_cases hl:(P.ring.length:Int) < P.most
  ·rw [if_pos hl]
   refine ⟨by simp,fun _ _=>by simp,fun g hg=>?_⟩
   rcases List.mem_append.1 hg with hg | hg
   ·exact .inr ⟨g,hg,rfl⟩
   ·rw [List.mem_singleton] at hg;subst hg;exact .inl rfl
  ·rw [if_neg hl]
   have hlen:0 < P.ring.length:=by have:=h.pi.m8;omega
   obtain ⟨_,_,_,k4,_⟩:=z11k h.pi.n hlen h.g h.calm.d (2*P.most+1).toNat
   generalize zNrE (2*P.most+1).toNat P L D=X at k4
   have hlx:X.1.ring.length=P.ring.length:=by
    have:=congrArg List.length k4
    simpa using this
   have hp:∀ g∈X.1.ring,∃ f∈P.ring,f.page=g.page:=fun g hg=>by
    have hm:g.page∈X.1.ring.map (·.page):=List.mem_map_of_mem hg
    rw [k4] at hm
    obtain ⟨f,hf,e⟩:=List.mem_map.1 hm
    exact ⟨f,hf,e⟩
   by_cases hx0:X.2.2.2.2≠0
   ·rw [if_pos hx0]
    exact ⟨by omega,fun _ h=>absurd h hl,fun g hg=>.inr (hp g hg)⟩
   ·rw [if_neg hx0]
    refine ⟨by show P.ring.length<=(X.1.ring.set _ _).length;rw [List.length_set];omega,fun _ h=>absurd h hl,fun g hg=>?_⟩
    rcases zunS hg with rfl | ⟨j,_,hj⟩
    ·exact .inl rfl
    ·exact .inr (hp g (List.mem_of_getElem? hj))
end
section
variable {w w' w1:World} {a:Adr} {P:PoolM} {L:LogM} {D:DevM}
set_option maxRecDepth 100000 in
theorem zFIr (h:PoolS w a P L D) (hn:PoolN P) (hr:P.rows=[]):Calls Try.prog 12 #[ptrV a.pb] w fun e w'=>e=.returned (.slice none 0 0)/\Kept (fun _=>False) w w':=by
 have HTH:=qh (zaue h)
 have HRO:=qh (zIkB h hn)
 rw [hr] at HRO
 unfold ptrV at HTH HRO ⊢
 clear h hn hr
 go_enter Try.func12,Try.ntmps12
 go_wp2_with fail
 refine HTH.out.mono ?_
 rintro e wx ⟨rfl,rfl⟩
 go_wp2_with fail
 refine HRO.out.mono ?_
 rintro e w1 ⟨v,rfl,ho,hk⟩
 obtain ⟨va,vc,hv⟩:∃ A c,v=.slice A 0 c:=by
  rcases ho.2 with ⟨e,h0⟩ | ⟨g,c,cur,e,_⟩
  ·exact ⟨none,0,e⟩
  ·exact ⟨_,_,e⟩
 subst hv
 have HK:=qh hk
 clear ho hk HRO
 go_wp2_with fail
 go_loopw [12,3] (fun i v wr=>i=.int .i64 0/\v=.slice none 0 0/\Kept (fun _=>False) w wr) (fun _ _ _=>0)
 case atStart=>exact ⟨rfl,rfl,HK.out⟩
 case round=>
  obtain ⟨rfl,rfl,hK⟩:=hrel
  have HK2:=qh hK
  clear hK
  go_wp2
  go_ret
  exact ⟨rfl,HK2.out⟩
end
theorem zg3B {P:PoolM} (h:∀ f∈P.ring,f.dirty=false):P.rows=[]:=by
 cases hr:P.rows with
 | nil=>rfl
 | cons i l=>
  have hm:i∈P.rows:=by rw [hr];simp
  obtain ⟨f,hf,hd⟩:=(zLnP P i).1 hm
  rw [h f (List.mem_of_getElem? hf)] at hd
  cases hd
theorem zuXd {pages frames:Int} (p1:1<=pages) (p2:pages<=60000) (f0:8<=frames) (f1:frames<=1024):RigI (zVHS 12 pages frames) rigL0 (newM (12+pages)):=by
 obtain ⟨N,hN⟩:∃ N,N=12+pages:=⟨_,rfl⟩
 rw [<- hN]
 have hl:∀ k,(newM N).latest k=zeros 512:=fun k=>rfl
 have hsx:∀ n,sx (newM N).latest 0 12 n=zeros 64:=fun n=>by
  have:=zQhx n (C:=12) (by decide)
  unfold sx
  rw [hl,ze00 (by omega)]
 have hA:AreaS (newM N).latest 0 12 1:=⟨fun n=>by rw [hsx];exact zrlC 64,fun n=>by rw [hsx,zMf0];exact .inl (Int.le_refl 0),fun n=>by rw [hsx,z3Ba];decide⟩
 have hR:RestS (newM N).latest 0 12 1 1 1 (fun _=>0):=by
  refine ⟨hA,⟨fun n a b=>by omega,fun n a b=>by omega,fun n a b c=>absurd (by decide) c,fun a=>absurd a (by decide),?_⟩,?_,fun n a b=>?_⟩
  ·left;rw [hsx,zMf0];decide
  ·left;rw [hsx,zMf0];decide
  ·rw [hsx,zMf0] at b;omega
 refine ⟨⟨[],fun _=>0,?_⟩,?_,⟨rfl,rfl,by show 1<=N;omega⟩,fun p=>?_,rfl,rfl,rfl⟩
 ·exact { up:=fun a=>DevM.mayE_ok rfl (by unfold secB;have:=zQhx ((a - 1) / 51) (C:=12) (by decide);show 0<=0+(a - 1) / 51 % (12*8) / 8;omega) (by unfold secB;have:=zQhx ((a - 1) / 51) (C:=12) (by decide);show 0+(a - 1) / 51 % (12*8) / 8 < N;omega),nop:=fun _ _ _=>rfl,len:=fun k=>by rw [hl];exact zrlC 512,slen:=fun k=>by show ((newM N).safe k |>.getD (zeros 512)).length=512;exact zrlC 512,f0:=by decide,f1:=by decide,c4:=by decide,c1:=by decide,t1:=by decide,t2:=by decide,o1:=by decide,so:=by decide,sf:=by decide,fm:=by decide,room:=by decide,rest:=hR,beg:=rfl,tail:=⟨rfl,fun i hi=>by simp [rigL0] at hi⟩,recs:=trivial,lsns:=rfl,flat:=rfl,sb:=⟨0,Nat.le_refl _,rfl⟩ }
 ·exact ⟨by show (0:Int)<=12;decide,p1,by show 12+pages<=N;omega,by show N<=65536;omega,.inr (by show (0:Int)+12<=12;decide),f0,f1,by show ((0:Nat):Int)<=frames;omega,Int.le_refl _,Int.le_refl _,List.nodup_nil,fun f hf=>by cases hf⟩
 ·exact zjuv (fun f hf=>by cases hf)
section
variable {w w' w1:World} {a:Adr} {P:PoolM} {L:LogM} {D:DevM}
theorem zS49 {L:LogM} {page off:Int} {m:Bytes} (l1:1<=L.fin) (l2:L.fin<=2999999999999000000) (t1:1<=L.turn) (t2:L.turn < 2147483648) (p0:0<=page) (p1:page < 65536) (o0:0<=off) (m0:m≠[]) (o1:off+m.length<=512) :
  zZer { chR page off m with lsn:=L.fin,turn:=L.turn }:=by
 have hm0:0 < m.length:=List.length_pos_iff.2 m0
 unfold zZer fitsM chR inM topM
 dsimp only
 refine ⟨l1,by omega,t1,t2,⟨by omega,by omega⟩,⟨by omega,by omega⟩,⟨by omega,by omega⟩,.inl ⟨rfl,rfl,?_,rfl⟩⟩
 omega
theorem zJU6:openM (newM (12+20)) 0 12 1 1=(some rigL0,newM (12+20),0):=by kernel_rfl
theorem zCiy:zoel (newM (12+20)) 0 12 1 4488 4489 1 0 []=([],0):=by kernel_rfl
theorem zqK2 {b m:Bytes} {k j:Nat} (h:k+m.length<=b.length) (hj:j < m.length):bAt (layO b k m) (k+j)=bAt m j:=by
 unfold layO bAt
 simp only [List.getD_eq_getElem?_getD]
 rw [List.getElem?_append_right (by simp;omega),List.getElem?_append_left (by simp;omega)]
 congr 2
 simp;omega
structure AwI (w:World) (k:Nat) (rg:Nat) (a:Adr) (P:PoolM) (L:LogM) (D:DevM) (wr:World):Prop where
 s:RigS wr rg a P L D
 i:RigI P L D
 pb:P.blocks=20
 pm:P.most=8
 kp:Kept (fun _=>False) w wr
 fr:∀ x,a.K x->w.heap.size<=x
 fin1:1<=L.fin
 fin:L.fin<=1+1075*(k:Int)
 tu:L.turn=1
 len:P.ring.length=min k 8
 pg:∀ f∈P.ring,f.page < (k:Int)
 cur:∀ p:Nat,p < k->bAt (P.cur D p) 500=UInt8.ofNat (p+1)
theorem AwI.next {k:Nat} {rg:Nat} {wr:World} (h:AwI w k rg a P L D wr) (hk:k < 20) {a1 a2:Adr} {w1 w2:World} {L1 L2:LogM} {D1 D2:DevM} {P2:PoolM} (ht1:AdrTo wr a w1 a1) (ht2:AdrTo w1 a1 w2 a2) (hs2:RigS w2 rg a2 P2 L2 D2)
  (e1:app1M L D (chR k 500 [UInt8.ofNat (k+1)])=(L1,D1,L.fin)) (e2:zpi7 P L1 D1 k 500 [UInt8.ofNat (k+1)] L.fin=(P2,L2,D2,0)):AwI w (k+1) rg a2 P2 L2 D2 w2:=by
 have hf1:=h.fin1
 have hf:=h.fin
 have hpb:=h.pb
 obtain ⟨L1',D1',q1,q2,q3,q4,q5,q6,q7⟩:=zqSn h.i (chR k 500 [UInt8.ofNat (k+1)]) (zS49 hf1 (by omega) (by rw [h.tu];decide) (by rw [h.tu];decide) (by omega) (by omega) (by decide) (by simp) (by simp)) (by omega)
 rw [q1] at e1
 cases e1
 obtain ⟨P2',L2',D2',r1,r2,r3,r4,P1,i,r5,r6,r7,r8,r9⟩:=zV7e q2 (page:=k) (off:=500) (lsn:=L.fin) (m:=[UInt8.ofNat (k+1)]) (by omega) (by omega) (by decide) (by simp) (by simp) hf1 q4
 rw [r1] at e2
 cases e2
 obtain ⟨m1,m2,m3⟩:=zC9J q2 (page:=k) (by omega) (by omega)
 rw [r5] at m1 m2 m3
 have hlen:=h.len
 have hnm:=h.pm
 have hK1:∀ x,a1.K x->w.heap.size<=x:=fun x hx=>by
  rcases ht1.g x hx with h1 | h1
  ·exact h.fr x h1
  ·have:=h.kp.size;omega
 have hk1:Kept (fun _=>False) w w1:=h.kp.new ht1.k h.fr
 refine ⟨hs2,r2,by rw [r4.pb];exact hpb,by rw [r4.pm];exact hnm,hk1.new ht2.k hK1,fun x hx=>?_,by rw [r4.fin];omega,by rw [r4.fin];omega,by rw [r4.lt,q6];exact h.tu,?_,fun f hfm=>?_,fun p hp=>?_⟩
 ·rcases ht2.g x hx with h1 | h1
  ·exact hK1 x h1
  ·have:=hk1.size;omega
 ·rw [r7]
  have hno:∀ f∈P.ring,f.page≠(k:Int):=fun f hf=>by have:=h.pg f hf;omega
  by_cases c:(P.ring.length:Int) < P.most
  ·rw [m2 hno c];omega
  ·have h8:=r2.pi.len
   rw [r4.pm,r7,hnm] at h8
   omega
 ·have hm:f.page∈P2.ring.map (·.page):=List.mem_map_of_mem hfm
  rw [r8] at hm
  obtain ⟨g,hg,e⟩:=List.mem_map.1 hm
  rcases m3 g hg with h1 | ⟨f',h1,h2⟩
  ·omega
  ·have:=h.pg f' h1;omega
 ·rw [r3 p (by omega) (by omega)]
  by_cases c:p=k
  ·subst c
   rw [if_pos rfl]
   have hcl:(P.cur D1 p).length=512:=zeDU q2.pi q2.len _
   exact zqK2 (k:=500) (j:=0) (by rw [hcl];simp) (by simp)
  ·rw [if_neg (by omega),q3 p (by omega)]
   exact h.cur p (by omega)
theorem AwI.read {rg:Nat} {wr:World} (h:AwI w 20 rg a P L D wr) {j:Nat} (hj:j < 20) {a1:Adr} {w1:World} {P':PoolM} {L':LogM} {D':DevM} {i:Nat} (ht1:AdrTo wr a w1 a1) (hs:PoolS w1 a1 P' L' D') (e:ziLQ P L D j=(P',L',D',i,0)):AwI w 20 rg a1 P' L' D' w1:=by
 have hpb:=h.pb
 obtain ⟨P1,L1,D1,i1,f,e1,h1,h2,h3,h4,h5⟩:=zRW5 h.i (page:=j) (by omega) (by omega)
 rw [e1] at e
 cases e
 obtain ⟨m1,_,m3⟩:=zC9J h.i (page:=j) (by omega) (by omega)
 rw [e1] at m1 m3
 have hl:=h5.like
 have hpm:=h.pm
 have hlen:=h.len
 refine ⟨h.s.to ht1 hs,h4,by rw [hl.pb];exact hpb,by rw [hl.pm];exact hpm,h.kp.new ht1.k h.fr,fun x hx=>?_,by rw [hl.fin];exact h.fin1,by rw [hl.fin];exact h.fin,by rw [hl.lt];exact h.tu,?_,fun f hf=>?_,fun p hp=>?_⟩
 ·rcases ht1.g x hx with h6 | h6
  ·exact h.fr x h6
  ·have:=h.kp.size;omega
 ·have h8:=h4.pi.len
  rw [hl.pm,hpm] at h8
  dsimp only at m1
  omega
 ·rcases m3 f hf with h6 | ⟨g,h6,h7⟩
  ·omega
  ·have:=h.pg g h6;omega
 ·rw [h5.cur p (by omega) (by omega)]
  exact h.cur p hp
end
end Go.Proofs.Ytnbfhdgojmflhaa
