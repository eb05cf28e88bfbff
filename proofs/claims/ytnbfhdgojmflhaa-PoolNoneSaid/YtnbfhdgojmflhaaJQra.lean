/-
  No statement is proved here.
-/
import Derived.Test.YtnbfhdgojmflhaaJQfl
namespace Go.Proofs.Ytnbfhdgojmflhaa
open Go.RowKit
section
variable {w w' w1:World} {a:Adr} {P:PoolM} {L:LogM} {D:DevM}
def zVHS (first blocks most:Int):PoolM:=⟨first,blocks,most,0,[]⟩
theorem bPool (p q:Nat) (first blocks most:Int) (mb:Nat) (wz:World):(Instr.build 57 #[(0,.pointer (some ⟨p,0,none⟩)),(1,.pointer (some ⟨q,0,none⟩)),(2,.int .i64 first),(3,.int .i64 blocks),(4,.int .i64 most),(6,.map (some mb))]).run Try.prog wz =
  .ok (.agg #[.pointer (some ⟨p,0,none⟩),.pointer (some ⟨q,0,none⟩),.int .i64 first,.int .i64 blocks,.int .i64 most,.slice none 0 0,.int .i64 0,.map (some mb)]) wz:=run_build wz _ _ _ (by kernel_rfl)
set_option maxRecDepth 100000 in
set_option maxHeartbeats 1600000 in
theorem zywc {q p ms mo:Nat} {lv tv:Value} (h:LogS w q p ms mo lv tv L D) (hf:L.fin≠0) {first blocks most:Int} (f0:0<=first) (b0:1<=blocks) (fb:first+blocks<=D.n) (m0:8<=most) (m1:most<=1024) :
  Calls Try.prog 20 #[ptrV p,ptrV q,.int .i64 first,.int .i64 blocks,.int .i64 most] w fun e w'=>∃ a,e=.returned (ptrV a.pb)/\a.q=q/\a.p=p/\a.ms=ms/\a.mo=mo/\a.lv=lv/\a.tv=tv/\a.rv=.slice none 0 0/\a.xs=[]/\w.heap.size<=a.pb/\w.heap.size<=a.mb/\PoolS w' a (zVHS first blocks most) L D/\Kept (fun _=>False) w w':=by
 have H:=qh h
 have HB:=qh (zyYd h.dev)
 have HE:=qh (z4JP w q p lv tv L h.hq)
 have n0:=h.dev.n0
 have n1:=h.dev.n1
 have c1:¬ D.n=0:=by omega
 have c1b:(D.n == 0)=false:=by rw [beq_eq_false_iff_ne];exact c1
 have c2b:(L.fin == 0)=false:=by rw [beq_eq_false_iff_ne];exact hf
 have c3:¬ first < 0:=by omega
 have c4:¬ blocks < 1:=by omega
 have c5:¬ D.n < first:=by omega
 have c6:¬ D.n - first < blocks:=by omega
 have c7:¬ most < 8:=by omega
 have c8:¬ 1024 < most:=by omega
 have e2:IntKind.i64.wrap (D.n - first)=D.n - first:=by rw [IntKind.wrap_i64];omega
 have BP:=fun mb=>bPool p q first blocks most mb
 unfold ptrV
 clear h
 go_enter Try.func20,Try.ntmps20
 go_wp2_with fail
 refine HB.out.mono ?_
 rintro e wx ⟨rfl,rfl⟩
 go_wp2_with fail
 refine HE.out.mono ?_
 rintro e wx ⟨rfl,rfl⟩
 go_wp2_with (refine zrzo rfl 55 rfl ?_)
 intro mb w1 hm0 hm1 hmm hmk
 have BP1:=BP mb
 go_wp2_with (refine znBH rfl 57 _ rfl (.agg #[.pointer (some ⟨p,0,none⟩),.pointer (some ⟨q,0,none⟩),.int .i64 first,.int .i64 blocks,.int .i64 most,.slice none 0 0,.int .i64 0,.map (some mb)]) rfl ?_)
 intro pb w2 hp0 hp1 hpb hpk
 have HM:=qh (hmm.kept (w':=w2) hpk id)
 have HPB:=qh hpb
 have HK:=qh (hmk.trans0 hpk)
 have s1:=hmk.size
 clear BP BP1 hmm hmk hpb hpk
 go_wp2
 go_ret
 have l1:=zvKu H.out.dev.hp
 have l2:=H.out.dev.hs.lt
 have l3:=H.out.dev.ho.lt
 exact ⟨⟨pb,mb,q,p,ms,mo,lv,tv,.slice none 0 0,[]⟩,rfl,rfl,rfl,rfl,rfl,rfl,rfl,rfl,rfl,by show w.heap.size<=pb;omega,hm0,
  ⟨H.out.keep HK.out (fun _ _=>id),HPB.out,HM.out.ext (fun n=>rfl),World.ownsRow_nil _ _ _ _,(fun x hx=>by cases hx),rfl,List.nodup_nil,List.nodup_nil,(fun x hx=>by cases hx),⟨by show mb≠ms;omega,by show mb≠mo;omega⟩⟩,HK.out⟩
end
section
variable {D:DevM} {L:LogM} {R:List RecM} {B:Int->UInt8}
theorem zJzo (h:LogI D L R B) (hs:L.safe=L.fin):L.trim L.fin=({ L with oldest:=L.fin,lsns:=[] },0)/\LogI D { L with oldest:=L.fin,lsns:=[] } [] B:=by
 have hl:=h.llen
 have hfl:=h.flen
 have hf:findM L.lsns L.fin=L.lsns.length:=zhop _ _ _ (Nat.le_refl _) (fun t ht=>by
  have hk:t < R.length:=by omega
  have h1:=zUj0 h hk
  have h2:=zXpv h (k:=t+1) (by omega)
  rw [h1.1];omega) (fun t h1 h2=>by omega)
 have hfo:zVUo L.lsns L.fin=false:=by unfold zVUo;rw [hf];simp
 refine ⟨?_,?_⟩
 ·unfold LogM.trim
  rw [hf,hfo,if_neg (by rintro (⟨_,h1⟩ | h1);exact h1 rfl;omega),List.drop_length]
 ·refine { h with o1:=?_,so:=?_,room:=?_,rest:=?_,tail:=?_,recs:=trivial,lsns:=rfl,flat:=?_,sb:=⟨0,Nat.le_refl _,?_⟩ }
  ·show 1<=L.fin;have h1:=h.o1;have h2:=h.so;have h3:=h.sf;omega
  ·show L.fin<=L.safe;omega
  ·show L.fin - L.fin<=408*(L.count - 1);have:=h.c4;omega
  ·exact h.rest.trim (o':=L.fin) (by have h2:=h.so;have h3:=h.sf;omega) (by omega)
  ·exact zMy2 (o':=L.fin) h.tail (by have h2:=h.so;have h3:=h.sf;omega)
  ·show flatR []=stB B L.fin (L.fin - L.fin).toNat
   rw [show (L.fin - L.fin).toNat=0 by omega]
   exact (List.length_eq_zero_iff.1 (by rw [zvfb])).symm
  ·show L.safe=L.fin+(flatR ([]:List RecM)).length
   rw [hs];simp [flatR]
end
def comR:RecM:=⟨0,0,3,1,0,0,0,0,[],[]⟩
def app1M (L:LogM) (D:DevM) (r:RecM):LogM×DevM×Int:=
 let x:=L.append r
 if x.2.2=5 then
  let y:=L.force D
  if y.2.2≠0 then (y.1,y.2.1,0) else
  let z:=y.1.trim y.1.fin
  if z.2≠0 then (z.1,y.2.1,0) else
  let x2:=z.1.append r
  if x2.2.2≠0 then let x3:=x2.1.append comR;(x3.1,y.2.1,x3.2.1) else (x2.1,y.2.1,x2.2.1)
 else if x.2.2≠0 then let x3:=x.1.append comR;(x3.1,D,x3.2.1) else (x.1,D,x.2.1)
section
variable {D:DevM} {L:LogM} {R:List RecM} {B:Int->UInt8}
theorem zfh4 (h:LogI D L R B) (hc:Calm D) (r:RecM) (hr:zZer { r with lsn:=L.fin,turn:=L.turn }) (hfm:L.fin<=2999999999999000000) :
  ∃ L' D' R' B',app1M L D r=(L',D',L.fin)/\LogI D' L' R' B'/\Calm D'/\D'.n=D.n/\L'.first=L.first/\L'.count=L.count/\L'.turn=L.turn/\L.fin < L'.fin/\L'.fin<=L.fin+1075/\L.safe<=L'.safe /\
   (∀ k,(k < L.first\/L.first+L.count<=k)->D'.latest k=D.latest k):=by
 have hel:=(zThL hr).1
 have hlen:=(zThL hr).2
 have hff:=h.sf
 have hc4:=h.c4
 by_cases hroom:L.room < ((encM { r with lsn:=L.fin,turn:=L.turn }).length:Int)
 ·have hx:L.append r=(L,0,5):=by
   unfold LogM.append
   dsimp only
   rw [if_neg (fun hn=>hn hr),if_pos hroom]
  obtain ⟨D1,hf,hc1,hn1,hI1,hlat,_⟩:=zi5U h hc
  obtain ⟨m1,m2,m3,m4,m5,m6,m7⟩:=zvn3 L
  obtain ⟨t1,t2⟩:=zJzo hI1 (m6.trans m5.symm)
  obtain ⟨L2,hL2⟩:∃ L2:LogM,L2={ zKV1 L with oldest:=(zKV1 L).fin,lsns:=[] }:=⟨_,rfl⟩
  rw [<- hL2] at t1 t2
  have l1:L2.fin=L.fin:=by rw [hL2];exact m5
  have l2:L2.turn=L.turn:=by rw [hL2];exact m3
  have l3:L2.oldest=L.fin:=by rw [hL2];exact m5
  have l4:L2.count=L.count:=by rw [hL2];exact m2
  have l5:L2.first=L.first:=by rw [hL2];exact m1
  have l6:L2.safe=L.fin:=by rw [hL2];exact m6
  have hr2:zZer { r with lsn:=L2.fin,turn:=L2.turn }:=by rw [l1,l2];exact hr
  have ha:=zK9R t2 r hr2 (by unfold LogM.room;rw [l1,l2,l3,l4];omega) (by rw [l1];exact hfm)
  obtain ⟨a1,B',a2⟩:=ha
  rw [l1,l2] at a1 a2
  refine ⟨_,D1,_,B',?_,a2,hc1,hn1,l5,l4,rfl,by show L.fin < L.fin+_;omega,by show L.fin+_<=_;omega,by show L.safe<=L2.safe;rw [l6];exact hff,hlat⟩
  unfold app1M
  rw [hx]
  dsimp only
  rw [if_pos rfl,hf]
  dsimp only
  rw [if_neg (fun h=>h rfl),t1]
  dsimp only
  rw [if_neg (fun h=>h rfl),a1]
  dsimp only
  rw [if_neg (fun h=>h rfl)]
 ·obtain ⟨a1,B',a2⟩:=zK9R h r hr hroom hfm
  refine ⟨_,D,_,B',?_,a2,hc,rfl,rfl,rfl,rfl,by show L.fin < L.fin+_;omega,by show L.fin+_<=_;omega,Int.le_refl _,fun _ _=>rfl⟩
  unfold app1M
  rw [a1]
  dsimp only
  rw [if_neg (by decide),if_neg (fun h=>h rfl)]
end
section
variable {w w' w1:World} {a:Adr} {P:PoolM} {L:LogM} {D:DevM}
theorem LogR.drop {L L':LogM} (h:LogR L) (k:Nat) (hl:L'.lsns=L.lsns.drop k) (hf:L'.fin=L.fin):LogR L':=by
 have e:∀ i,(L.lsns.drop k).getD i 0=L.lsns.getD (k+i) 0:=fun i=>by
  rw [List.getD_eq_getElem?_getD,List.getD_eq_getElem?_getD,List.getElem?_drop]
 refine ⟨?_,?_,?_,?_,?_⟩
 ·rw [hl]
  intro i j hij hj
  rw [e,e]
  exact h.ri _ _ (by omega) (by rw [List.length_drop] at hj;omega)
 ·rw [hl];intro i hi;rw [e];exact h.n1 _ (by rw [List.length_drop] at hi;omega)
 ·rw [hl,hf];intro i hi;rw [e,e];exact h.nx (k+i) (by rw [List.length_drop] at hi;omega)
 ·rw [hl,hf];intro i hi;rw [e];exact h.nl (k+i) (by rw [List.length_drop] at hi;omega)
 ·rw [hl,List.length_drop];have:=h.ll;omega
theorem LogG.trimEnd (h:LogG L):LogG (L.trim L.fin).1:=by
 unfold LogM.trim
 split
 ·exact h
 ·have h1:=h.ok.o0
  have h2:=h.ok.o1
  exact ⟨⟨h.ok.f0,h.ok.f1,h.ok.c0,h.ok.c1,by show 1<=L.fin;omega,by show L.fin<=L.fin;omega,h.ok.e1,h.ok.s0,h.ok.s1⟩,⟨h.b.fe,h.b.b0,h.b.bs⟩,h.r.drop (findM L.lsns L.fin) rfl rfl,h.t1,h.t2,h.bs,h.sf,h.tl⟩
theorem PoolS.app (h:PoolS w a P L D) (hg:LogG L) (q:Nat) (hq:a.q=q) (r:RecM) (A1:Option Addr) (c1:Nat) (A2:Option Addr) (c2:Nat) (ho:RecOk r) (h1:r.old.length<=1000000) (h2:r.new.length<=1000000) (hr1:RdB w A1 r.old) (hr2:RdB w A2 r.new) :
  Calls Try.prog 24 #[.pointer (some ⟨q,0,none⟩),.agg (recC r A1 c1 A2 c2)] w fun e w'=>e=.returned (.tuple #[.int .i64 (L.append r).2.1,.int .i64 (L.append r).2.2])/\∃ a',PoolS w' a' P (L.append r).1 D/\AdrTo w a w' a':=by
 subst hq
 have hti:isI L.turn:=by have:=hg.t1;have:=hg.t2;unfold isI;omega
 refine (z0zc w a.q a.p a.ms a.mo a.lv a.tv L D h.log hg.ok hti hg.tl hg.r.ll r A1 c1 A2 c2 ho h1 h2 hr1 hr2).mono ?_
 rintro e w' ⟨he,lv',tv',hs,hk,hl,ht⟩
 have:=h.turn hk (fun x hx=>by
  rcases hx with hx | hx | hx
  ·exact .inl hx
  ·exact .inr (.inr (.inr (.inr (.inl hx))))
  ·exact .inr (.inr (.inr (.inr (.inr hx))))) hs hl ht
 exact ⟨he,_,this.1,⟨⟨rfl,rfl,rfl,rfl,rfl,rfl⟩,this.2.1,this.2.2⟩⟩
theorem PoolS.trim (h:PoolS w a P L D) (hg:LogG L) (q:Nat) (hq:a.q=q) (n:Int) :
  Calls Try.prog 61 #[.pointer (some ⟨q,0,none⟩),.int .i64 n] w fun e w'=>e=.returned (.int .i64 (L.trim n).2)/\∃ a',PoolS w' a' P (L.trim n).1 D/\AdrTo w a w' a':=by
 subst hq
 refine (zV6y w a.q a.p a.ms a.mo a.lv a.tv L D h.log hg.r.ri hg.r.ll n).mono ?_
 rintro e w' ⟨he,lv',hs,hk,hl⟩
 have:=h.turn hk (fun x hx=>.inl hx) hs (.inl hl) (.inl rfl)
 exact ⟨he,_,this.1,⟨⟨rfl,rfl,rfl,rfl,rfl,rfl⟩,this.2.1,this.2.2⟩⟩
theorem PoolS.forceA (h:PoolS w a P L D) (hg:LogG L) (q:Nat) (hq:a.q=q) :
  Calls Try.prog 25 #[.pointer (some ⟨q,0,none⟩)] w fun e w'=>e=.returned (.int .i64 (L.force D).2.2)/\∃ a',PoolS w' a' P (L.force D).1 (L.force D).2.1/\AdrTo w a w' a':=by
 subst hq
 refine (h.force hg).mono ?_
 rintro e w' ⟨he,tv',hs,hk,hgr⟩
 exact ⟨he,_,hs,⟨⟨rfl,rfl,rfl,rfl,rfl,rfl⟩,hk,hgr⟩⟩
theorem PoolS.notT (h:PoolS w a P L D) {x:Nat} {t:TypeId} (hx:IsT w x t) (t1:t≠104) (t2:t≠101) (t3:t≠57) (t4:t≠92) (t5:t≠94) (t6:t≠5) (t7:t≠2):¬ a.K x:=fun hK=>by
 rcases hK with hK | e | e | hK | ⟨y,hy,e | e⟩
 ·rcases hK with e | e | e | e | hK | hK
  ·exact hx.ne h.tq t1 e
  ·exact hx.ne h.tp t2 e
  ·exact hx.nem h.log.dev.hs e
  ·exact hx.nem h.log.dev.ho e
  ·exact hx.ne (h.tlv hK) t7 rfl
  ·exact hx.ne (h.ttv hK) t6 rfl
 ·exact hx.ne h.tpb t3 e
 ·exact hx.nem h.map e
 ·exact hx.ne (h.trv hK) t4 rfl
 ·exact hx.ne (h.tk hy) t5 e
 ·exact hx.ne (h.tg hy) t6 e
theorem zCPY {r:RecM} (h:(L.append r).2.2≠0):(L.append r).1=L:=by
 unfold LogM.append at *
 dsimp only at *
 split
 ·rfl
 ·rename_i h1
  rw [if_neg h1] at h
  split
  ·rfl
  ·rename_i h2
   rw [if_neg h2] at h
   exact absurd rfl h
end
section
variable {w w' w1:World} {a:Adr} {P:PoolM} {L:LogM} {D:DevM}
def rigC (a:Adr):Array Value:=#[ptrV a.p,ptrV a.q,ptrV a.pb]
structure RigS (w:World) (rg:Nat) (a:Adr) (P:PoolM) (L:LogM) (D:DevM):Prop where
 s:PoolS w a P L D
 hr:w.heap[rg]?=some (.cells (rigC a) 28 (0,0))
theorem RigS.ne {rg:Nat} (h:RigS w rg a P L D):¬ a.K rg:=h.s.notT ⟨_,_,h.hr⟩ (by decide) (by decide) (by decide) (by decide) (by decide) (by decide) (by decide)
theorem z07p {a a':Adr} (h:a.Fix a'):rigC a'=rigC a:=by unfold rigC;rw [h.p,h.q,h.pb]
theorem RigS.to {rg:Nat} {a':Adr} {P':PoolM} {L':LogM} {D':DevM} (h:RigS w rg a P L D) (ht:AdrTo w a w' a') (hs:PoolS w' a' P' L' D'):RigS w' rg a' P' L' D':=⟨hs,by rw [z07p ht.fix];exact ht.k.heap h.hr h.ne⟩
theorem RigS.keep0 {rg:Nat} (h:RigS w rg a P L D) (hk:Kept (fun _=>False) w w'):RigS w' rg a P L D:=⟨h.s.keep0 hk,hk.heap h.hr id⟩
def chR (page off:Int) (m:Bytes):RecM:=⟨0,0,1,1,0,0,page,off,m,m⟩
end
end Go.Proofs.Ytnbfhdgojmflhaa
