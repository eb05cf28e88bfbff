/-
  No statement is proved here.
-/
import Derived.Test.YtnbfhdgojmflhaaJQf
import Derived.Test.YtnbfhdgojmflhaaJQw
namespace Go.Proofs.Ytnbfhdgojmflhaa
open Go.RowKit
theorem PoolI.n {P:PoolM} {L:LogM} {D:DevM} (h:PoolI P L D):PoolN P:=⟨h.f0,by have:=h.fn;have:=h.dn;omega,by have:=h.m8;omega,h.m1,h.len,h.h0,h.h1,fun f hf=>⟨(h.fr f hf).1,(h.fr f hf).2.1⟩,h.nd⟩
theorem zgcT {l:List (Int×Nat)} (hn:(l.map (·.1)).Nodup) (n:Int) (v:Value):lookP l n=some v↔∃ z∈l,z.1=n/\ptrV z.2=v:=by
 induction l with
 | nil=>unfold lookP;simp
 | cons z l ih=>
  rw [List.map_cons,List.nodup_cons] at hn
  unfold lookP at ih ⊢
  rw [List.find?_cons]
  by_cases e:z.1=n
  ·have hb:(z.1 == n)=true:=by simpa using e
   simp only [hb,Option.map_some,Option.some.injEq,List.mem_cons]
   constructor
   ·intro h;exact ⟨z,.inl rfl,e,h⟩
   ·rintro ⟨y,rfl | hy,h1,h2⟩
    ·exact h2
    ·exact absurd (List.mem_map.2 ⟨y,hy,h1.trans e.symm⟩) hn.1
  ·have hb:(z.1 == n)=false:=by simpa using e
   simp only [hb,List.mem_cons]
   rw [ih hn.2]
   constructor
   ·rintro ⟨y,hy,h⟩;exact ⟨y,.inr hy,h⟩
   ·rintro ⟨y,rfl | hy,h1,h2⟩
    ·exact absurd h1 e
    ·exact ⟨y,hy,h1,h2⟩
theorem zZSJ {xs:List FrD} (hn:(xs.map (fun x=>x.m.page)).Nodup) (n:Int) (v:Value):pagesF xs n=some v↔∃ x∈xs,x.m.page=n/\ptrV x.k=v:=by
 unfold pagesF
 rw [zgcT (by rw [List.map_map];exact hn)]
 constructor
 ·rintro ⟨z,hz,h1,h2⟩
  obtain ⟨x,hx,rfl⟩:=List.mem_map.1 hz
  exact ⟨x,hx,h1,h2⟩
 ·rintro ⟨x,hx,h1,h2⟩
  exact ⟨x.pg,List.mem_map_of_mem hx,h1,h2⟩
theorem zo2D {f g:Int->Option Value} (h:∀ n v,f n=some v↔g n=some v):f=g:=by
 funext n
 cases hf:f n with
 | none=>
  cases hg:g n with
  | none=>rfl
  | some v=>rw [(h n v).2 hg] at hf;cases hf
 | some v=>rw [(h n v).1 hf]
theorem z9AU {xs:List FrD} {k:Nat} {x y:FrD} (hn:(xs.map (fun x=>x.m.page)).Nodup) (hx:xs[k]?=some x) (hy:∀ z∈xs,z.m.page≠y.m.page):updF (delF (pagesF xs) x.m.page) y.m.page (ptrV y.k)=pagesF (xs.set k y):=by
 have hn2:((xs.set k y).map (fun x=>x.m.page)).Nodup:=by
  rw [List.map_set]
  exact zBNW hn (fun h=>by
   obtain ⟨z,hz,e⟩:=List.mem_map.1 h
   exact hy z hz e)
 apply zo2D
 intro n v
 rw [zZSJ hn2]
 unfold updF
 by_cases e:n=y.m.page
 ·rw [if_pos e]
  constructor
  ·intro h
   refine ⟨y,?_,e.symm,Option.some.inj h⟩
   have hl:=(List.getElem?_eq_some_iff.1 hx).1
   exact List.mem_of_getElem? (List.getElem?_set_self hl)
  ·rintro ⟨z,hz,h1,h2⟩
   rcases zq9d hz with rfl | ⟨j,hj,hz2⟩
   ·rw [h2]
   ·exact absurd (h1.trans e) (hy z (List.mem_of_getElem? hz2))
 ·rw [if_neg e]
  unfold delF
  by_cases e2:n=x.m.page
  ·rw [if_pos e2]
   constructor
   ·intro h;cases h
   ·rintro ⟨z,hz,h1,h2⟩
    rcases zq9d hz with rfl | ⟨j,hj,hz2⟩
    ·exact absurd h1.symm e
    ·exact absurd (zdvz hn (x:=n) (by rw [List.getElem?_map,hz2];exact congrArg some h1) (by rw [List.getElem?_map,hx];exact congrArg some e2.symm)) hj
  ·rw [if_neg e2,zZSJ hn]
   constructor
   ·rintro ⟨z,hz,h1,h2⟩
    obtain ⟨j,hj⟩:=List.getElem?_of_mem hz
    refine ⟨z,?_,h1,h2⟩
    have hjk:j≠k:=fun e3=>by rw [e3,hx] at hj;cases hj;exact e2 h1.symm
    exact List.mem_of_getElem? (i:=j) (by rw [List.getElem?_set_ne (fun e=>hjk e.symm)];exact hj)
   ·rintro ⟨z,hz,h1,h2⟩
    rcases zq9d hz with rfl | ⟨j,hj,hz2⟩
    ·exact absurd h1.symm e
    ·exact ⟨z,List.mem_of_getElem? hz2,h1,h2⟩
theorem zlrt {xs:List FrD} {y:FrD} (hn:(xs.map (fun x=>x.m.page)).Nodup) (hy:∀ z∈xs,z.m.page≠y.m.page):updF (pagesF xs) y.m.page (ptrV y.k)=pagesF (xs ++ [y]):=by
 have hn2:((xs ++ [y]).map (fun x=>x.m.page)).Nodup:=by
  rw [List.map_append,List.map_singleton,List.nodup_append]
  refine ⟨hn,by simp,fun a ha b hb=>?_⟩
  rw [List.mem_singleton] at hb
  obtain ⟨z,hz,e⟩:=List.mem_map.1 ha
  rw [hb,<- e]
  exact hy z hz
 apply zo2D
 intro n v
 rw [zZSJ hn2]
 unfold updF
 by_cases e:n=y.m.page
 ·rw [if_pos e]
  constructor
  ·intro h
   exact ⟨y,by simp,e.symm,Option.some.inj h⟩
  ·rintro ⟨z,hz,h1,h2⟩
   rcases List.mem_append.1 hz with hz | hz
   ·exact absurd (h1.trans e) (hy z hz)
   ·rw [List.mem_singleton] at hz;subst hz;rw [h2]
 ·rw [if_neg e,zZSJ hn]
  constructor
  ·rintro ⟨z,hz,h1,h2⟩
   exact ⟨z,List.mem_append_left _ hz,h1,h2⟩
  ·rintro ⟨z,hz,h1,h2⟩
   rcases List.mem_append.1 hz with hz | hz
   ·exact ⟨z,hz,h1,h2⟩
   ·rw [List.mem_singleton] at hz;subst hz;exact absurd h1.symm e
theorem zmc1 {l:List Nat} (h:l.Nodup) {k:Nat} {a:Nat} (ha:a ∉ l):(l.set k a).Nodup:=by
 rw [List.nodup_iff_pairwise_ne,List.pairwise_iff_getElem] at *
 intro i j hi hj hij
 rw [List.getElem_set,List.getElem_set]
 have hi':i < l.length:=by simpa using hi
 have hj':j < l.length:=by simpa using hj
 split
 ·split
  ·omega
  ·intro e;exact ha (e▸List.getElem_mem hj')
 ·split
  ·intro e;exact ha (e▸List.getElem_mem hi')
  ·exact h i j hi' hj' hij
section
variable {w w' w0 w1 w2:World} {a a0:Adr} {P P1:PoolM} {L L1:LogM} {D D1:DevM}
theorem PoolT.place {rv':Value} {vs:List Value} {f':Int->Option Value} (h:PoolT w0 w1 a0 P1 L1 D1 rv' vs f') {xs':List FrD} {y:FrD} (hyk:w1.heap.size<=y.k) (hyg:w1.heap.size<=y.g)
  (hb:w2.heap[y.k]?=some (.cells (frC y) 94 (0,0))) (ho:OwnB w2 0 y.g y.c y.m.b) (hp:w2.heap[a0.pb]?=some (.cells (poolC { a0 with rv:=rv' } P1) 57 (0,0)))
  (hr:w2.ownsRow 0 92 1 rv' xs'.length (ptrs xs')) (hm:IMap w2 a0.mb (pagesF xs')) (hk:Kept (fun z=>z=a0.mb\/rv'.ownBlock=some z) w1 w2)
  (hxs:∀ x∈xs',x=y\/x∈a0.xs) (n1:(xs'.map (·.k)).Nodup) (n2:(xs'.map (·.g)).Nodup) :
  PoolS w2 { a0 with rv:=rv',xs:=xs' } { P1 with ring:=xs'.map (·.m) } L1 D1/\AdrTo w0 a0 w2 { a0 with rv:=rv',xs:=xs' }:=by
 have hs1:=h.k.size
 have hs2:=hk.size
 have hK:Kept (fun z=>z=a0.pb\/z=a0.mb\/a0.rv.ownBlock=some z) w0 w2:=h.k.trans hk (fun x hx e=>by
  rcases e with e | e
  ·exact .inr (.inl e)
  ·rcases h.own with o | o
   ·exact .inr (.inr (by rw [<- o];exact e))
   ·have:=o x e;omega)
 have far:∀ z,a0.logK z->¬ (z=a0.pb\/z=a0.mb\/a0.rv.ownBlock=some z):=fun z hz e=>by
  have:=h.s.far hz
  rcases e with e | e | e
  ·exact this.1 e
  ·exact this.2.1 e
  ·exact this.2.2.1 e
 refine ⟨⟨h.s.log.keep hK far,hp,hm,hr,fun x hx=>?_,rfl,n1,n2,fun x hx=>?_,h.s.nm⟩,⟨rfl,rfl,rfl,rfl,rfl,rfl⟩,hK.mono (fun z _ e=>?_),fun z hz=>?_⟩
 ·rcases hxs x hx with rfl | hx0
  ·exact ⟨hb,ho⟩
  ·refine ⟨hK.heap (h.s.fr x hx0).1 (fun e=>?_),(h.s.fr x hx0).2.keep hK (fun e=>?_)⟩
   ·rcases e with e | e | e
    ·exact (h.s.tk hx0).ne h.s.tpb (by decide) e
    ·exact (h.s.tk hx0).nem h.s.map e
    ·exact (h.s.trv e).ne (h.s.tk hx0) (by decide) rfl
   ·rcases e with e | e | e
    ·exact (h.s.tg hx0).ne h.s.tpb (by decide) e
    ·exact (h.s.tg hx0).nem h.s.map e
    ·exact (h.s.trv e).ne (h.s.tg hx0) (by decide) rfl
 ·rcases hxs x hx with rfl | hx0
  ·intro e
   have:=(h.s.ttv e).lt
   omega
  ·exact h.s.ngt x hx0
 ·rcases e with e | e | e
  ·exact .inr (.inl e)
  ·exact .inr (.inr (.inl e))
  ·exact .inr (.inr (.inr (.inl e)))
 ·rcases hz with hz | hz | hz | hz | ⟨v,hv,e⟩
  ·exact .inl (.inl hz)
  ·exact .inl (.inr (.inl hz))
  ·exact .inl (.inr (.inr (.inl hz)))
  ·rcases h.own with o | o
   ·exact .inl (.inr (.inr (.inr (.inl (by rw [<- o];exact hz)))))
   ·exact .inr (o z hz)
  ·rcases hxs v hv with rfl | hv
   ·right;rcases e with rfl | rfl<;>omega
   ·exact .inl (.inr (.inr (.inr (.inr ⟨v,hv,e⟩))))
end
theorem wr_up {D:DevM} {n:Int} {l:Bytes} (h:(D.write n l).1=0):(D.write n l).2.down=false:=by
 by_cases h1:D.mayE n≠0
 ·have e:D.write n l=(D.mayE n,D):=by unfold DevM.write;rw [if_pos h1]
  rw [e] at h;exact absurd h h1
 ·by_cases h2:l.length≠512
  ·have e:D.write n l=(2,D):=by unfold DevM.write;rw [if_neg h1,if_pos h2]
   rw [e] at h;cases h
  ·have e:D.write n l=(zPhp (D.put n l).crash.down,(D.put n l).crash):=by unfold DevM.write;rw [if_neg h1,if_neg h2]
   rw [e] at h ⊢
   unfold zPhp at h
   dsimp only at h ⊢
   cases hd:(D.put n l).crash.down
   ·rfl
   ·rw [hd] at h;cases h
theorem wr_n (D:DevM) (n:Int) (l:Bytes):(D.write n l).2.n=D.n:=by
 unfold DevM.write
 split
 ·rfl
 ·split
  ·rfl
  ·exact (z4HA _).1
theorem wrF_n {L:LogM} (hc:0 < L.count) (pf:Int) (f:FrM) (D:DevM):(wrF pf f L D).2.2.1.n=D.n:=by
 have hn:(L.force D).2.1.n=D.n:=by
  have:=z4dJ (L:=L) (D:=D) hc
  by_cases h0:(L.force D).2.2=0
  ·rcases this.1 h0 with ⟨_,e⟩ | ⟨D1,h1,_,h3⟩
   ·rw [e]
   ·rw [h3];show D1.crash.n=D.n;exact (z4HA _).1.trans h1.n
  ·exact (this.2 h0).n
 obtain ⟨y,hy⟩:∃ y,y=(if L.safe<=f.last then L.force D else (L,D,0)):=⟨_,rfl⟩
 have hy1:y.2.1.n=D.n:=by
  rw [hy]
  split
  ·exact hn
  ·rfl
 have e:wrF pf f L D=(if y.2.2≠0 then (f,y.1,y.2.1,y.2.2) else if (y.2.1.write (pf+f.page) f.b).1≠0 then (f,y.1,(y.2.1.write (pf+f.page) f.b).2,(y.2.1.write (pf+f.page) f.b).1) else ({ f with dirty:=false,first:=0 },y.1,(y.2.1.write (pf+f.page) f.b).2,0)):=by rw [hy];rfl
 rw [e]
 split
 ·exact hy1
 ·split
  ·exact (wr_n _ _ _).trans hy1
  ·exact (wr_n _ _ _).trans hy1
theorem z6jP {L:LogM} {pf:Int} {f:FrM} {D:DevM} (h:(wrF pf f L D).2.2.2=0):(wrF pf f L D).2.2.1.down=false:=by
 obtain ⟨y,hy⟩:∃ y,y=(if L.safe<=f.last then L.force D else (L,D,0)):=⟨_,rfl⟩
 have e:wrF pf f L D=(if y.2.2≠0 then (f,y.1,y.2.1,y.2.2) else if (y.2.1.write (pf+f.page) f.b).1≠0 then (f,y.1,(y.2.1.write (pf+f.page) f.b).2,(y.2.1.write (pf+f.page) f.b).1) else ({ f with dirty:=false,first:=0 },y.1,(y.2.1.write (pf+f.page) f.b).2,0)):=by rw [hy];rfl
 rw [e] at h ⊢
 by_cases h1:y.2.2≠0
 ·rw [if_pos h1] at h;exact absurd h h1
 ·rw [if_neg h1] at h ⊢
  by_cases h2:(y.2.1.write (pf+f.page) f.b).1≠0
  ·rw [if_pos h2] at h;exact absurd h h2
  ·rw [if_neg h2]
   exact wr_up (by simpa using h2)
theorem zyv7 (pf:Int) (f:FrM) (L:LogM) (D:DevM):(wrF pf f L D).1.page=f.page:=by
 unfold wrF
 dsimp only
 repeat' split
 all_goals rfl
theorem z11k {P:PoolM} (hn:PoolN P) (h0:0 < P.ring.length) {L:LogM} (hg:LogG L) {D:DevM} (hd:D.down=false) (m:Nat):(zNrE m P L D).1.first=P.first/\(zNrE m P L D).1.blocks=P.blocks/\(zNrE m P L D).1.most=P.most /\
  (zNrE m P L D).1.ring.map (·.page)=P.ring.map (·.page)/\PoolN (zNrE m P L D).1/\LogG (zNrE m P L D).2.1/\(zNrE m P L D).2.2.1.n=D.n/\((zNrE m P L D).2.2.2.2=0->(zNrE m P L D).2.2.1.down=false):=by
 have hc:0 < L.count:=by have:=hg.ok.c0;omega
 obtain ⟨P1,e1,e2,e3,e4,e5,e6,e7⟩:=zW1H m P L D h0 hn.h0 hn.h1
 have hN1:PoolN P1:=by
  refine ⟨by rw [e1];exact hn.f0,by rw [e1,e2];exact hn.fb,by rw [e3];exact hn.m0,by rw [e3];exact hn.m1,by rw [e3,e4.len];exact hn.len,e5,e6,fun f hf=>?_,by rw [e4.pages];exact hn.nd⟩
  have hm:f.page∈P1.ring.map (·.page):=List.mem_map_of_mem hf
  rw [e4.pages] at hm
  obtain ⟨y,hy,e⟩:=List.mem_map.1 hm
  rw [<- e,e2]
  exact hn.pg y hy
 rcases e7 with e | ⟨k,f,hk,_,_,⟨_,e⟩ | ⟨_,_,e⟩ | ⟨_,hz,e⟩⟩
 ·rw [e];exact ⟨e1,e2,e3,e4.pages,hN1,hg,rfl,fun _=>hd⟩
 ·rw [e];exact ⟨e1,e2,e3,e4.pages,hN1,hg,rfl,fun _=>hd⟩
 ·rename_i h2
  rw [e];exact ⟨e1,e2,e3,e4.pages,hN1,hg.wr _ _ _,wrF_n hc _ _ _,fun h=>absurd h h2⟩
 ·rw [e]
  refine ⟨e1,e2,e3,?_,hN1.set hk (zyv7 _ _ _ _),hg.wr _ _ _,wrF_n hc _ _ _,fun _=>z6jP hz⟩
  show (P1.ring.set k _).map (·.page)=_
  rw [zBCX hk (zyv7 _ _ _ _)]
  exact e4.pages
section
variable {w w' w0 w1 w2:World} {a a0:Adr} {P P1:PoolM} {L L1:LogM} {D D1:DevM}
theorem PoolS.pagesX (h:PoolS w a P L D):a.xs.map (fun x=>x.m.page)=P.ring.map (·.page):=by rw [h.ring,List.map_map];rfl
theorem PoolS.find (h:PoolS w a P L D) (hn:PoolN P) (page:Int):(∃ x,a.xs[P.at page]?=some x/\x.m.page=page/\pagesF a.xs page=some (ptrV x.k))\/(P.ring[P.at page]?=none/\pagesF a.xs page=none/\∀ x∈a.xs,x.m.page≠page):=by
 have hnd:(a.xs.map (fun x=>x.m.page)).Nodup:=by rw [h.pagesX];exact hn.nd
 have hri:P.ring[P.at page]?=(a.xs[P.at page]?).map (·.m):=by rw [congrArg (fun l=>l[P.at page]?) h.ring,List.getElem?_map]
 cases hx:a.xs[P.at page]? with
 | some x=>
  left
  rw [hx] at hri
  have hp:x.m.page=page:=zyH5 hri
  exact ⟨x,rfl,hp,(zZSJ hnd _ _).2 ⟨x,List.mem_of_getElem? hx,hp,rfl⟩⟩
 | none=>
  right
  rw [hx] at hri
  have hno:=zfPR hri
  have hno2:∀ x∈a.xs,x.m.page≠page:=fun x hx2=>hno x.m (by rw [h.ring];exact List.mem_map_of_mem hx2)
  refine ⟨hri,?_,hno2⟩
  cases hf:pagesF a.xs page with
  | none=>rfl
  | some v=>
   obtain ⟨x,hx2,e,_⟩:=(zZSJ hnd _ _).1 hf
   exact absurd e (hno2 x hx2)
def zFWs (w:World) (a:Adr) (P:PoolM) (L:LogM) (D:DevM) (page:Int) (k:Nat) (w':World):Prop:=∃ (P1:PoolM) (L1:LogM) (D1:DevM) (w0:World) (a0:Adr) (rv':Value) (vs:List Value) (f':Int->Option Value) (Pf:FrM->PoolM),
 AdrTo w a w0 a0/\PoolT w0 w' a0 P1 L1 D1 rv' vs f'/\k < vs.length/\P1.first=P.first/\D1.mayE (P.first+page)=0/\f' page=none/\ziLQ P L D page=(Pf (newF page (D1.latest (P.first+page))),L1,D1,k,0) /\
 ∀ (w2:World) (y:FrD),y.m.page=page->w'.heap.size<=y.k->w'.heap.size<=y.g->w2.heap[y.k]?=some (.cells (frC y) 94 (0,0))->OwnB w2 0 y.g y.c y.m.b ->
  w2.ownsRow 0 92 1 rv' vs.length (vs.set k (ptrV y.k))->IMap w2 a0.mb (updF f' page (ptrV y.k))->Kept (fun z=>z=a0.mb\/rv'.ownBlock=some z) w' w2 ->
  ∃ a2,AdrTo w a w2 a2/\PoolS w2 a2 (Pf y.m) L1 D1/\a2.xs[k]?=some y
theorem PoolT.pb {rv':Value} {vs:List Value} {f':Int->Option Value} (h:PoolT w0 w1 a0 P1 L1 D1 rv' vs f') (hk:Kept (fun z=>z=a0.mb\/rv'.ownBlock=some z) w1 w2):w2.heap[a0.pb]?=some (.cells (poolC { a0 with rv:=rv' } P1) 57 (0,0)):=by
 refine hk.heap h.hp (fun e=>?_)
 rcases e with e | e
 ·exact h.s.tpb.nem h.s.map e
 ·exact (za9a h.row e).ne ⟨_,_,h.hp⟩ (by decide) rfl
theorem z9dm.got (hs:PoolS w a P L D) (hn:PoolN P) (hg:LogG L) (hd:D.down=false) (hD:P.first+P.blocks<=D.n) {page:Int} (p0:0<=page) (p1:page < P.blocks) (hno:P.ring[P.at page]?=none) {e:Ending} (h:z9dm w a P L D e w') :
  (∃ P1 L1 D1 i c,c≠0/\e=.returned (.tuple #[.int .i64 0,.int .i64 c])/\ziLQ P L D page=(P1,L1,D1,i,c)/\PPost w a P1 L1 D1 w') \/
  ∃ k:Nat,e=.returned (.tuple #[.int .i64 (k:Int),.int .i64 0])/\zFWs w a P L D page k w':=by
 have hnx:∀ x∈a.xs,x.m.page≠page:=fun x hx=>zfPR hno x.m (by rw [hs.ring];exact List.mem_map_of_mem hx)
 have hnd:(a.xs.map (fun x=>x.m.page)).Nodup:=by rw [hs.pagesX];exact hn.nd
 have hf0:=hn.f0
 unfold z9dm at h
 by_cases hl:(P.ring.length:Int) < P.most
 ·rw [if_pos hl] at h
  obtain ⟨he,rv',ht⟩:=h
  right
  have hvl:(ptrs a.xs ++ [Value.pointer none]).length=a.xs.length+1:=by simp [ptrs]
  refine ⟨a.xs.length,he,P,L,D,w,a,rv',_,_,(fun f=>{ P with ring:=P.ring ++ [f] }),AdrTo.refl w a,ht,by omega,rfl,DevM.mayE_ok hd (by omega) (by omega),?_,?_,?_⟩
  ·have:=hs.find hn page
   rcases this with ⟨x,hx,_⟩ | ⟨_,h2,_⟩
   ·exact absurd (hs.ringAt hx) (by rw [hno];intro h;cases h)
   ·exact h2
  ·unfold ziLQ
   rw [if_neg (by omega)]
   dsimp only
   rw [hno]
   dsimp only
   rw [if_pos hl,hs.len]
  ·intro w2 y hy hyk hyg hb ho hr hm hk
   have hset:(ptrs a.xs ++ [Value.pointer none]).set a.xs.length (ptrV y.k)=ptrs (a.xs ++ [y]):=by
    have e1:(ptrs a.xs).length=a.xs.length:=by simp [ptrs]
    rw [List.set_append_right _ _ (by omega),e1]
    simp [ptrs]
   have hl2:(a.xs ++ [y]).length=a.xs.length+1:=by simp
   have sz:=ht.k.size
   have hp:=ht.place (xs':=a.xs ++ [y]) hyk hyg hb ho (ht.pb hk) (by rw [hl2,<- hset,<- hvl];exact hr) (by rw [<- zlrt hnd (by rw [hy];exact hnx),hy];exact hm) hk
    (fun x hx=>by rcases List.mem_append.1 hx with h | h;exact .inr h;exact .inl (List.mem_singleton.1 h))
    (by rw [List.map_append,List.map_singleton,List.nodup_append];exact ⟨hs.ndk,by simp,fun z hz b hb=>by
     rw [List.mem_singleton] at hb
     obtain ⟨x,hx,e⟩:=List.mem_map.1 hz
     have:=(hs.tk hx).lt
     omega⟩)
    (by rw [List.map_append,List.map_singleton,List.nodup_append];exact ⟨hs.ndg,by simp,fun z hz b hb=>by
     rw [List.mem_singleton] at hb
     obtain ⟨x,hx,e⟩:=List.mem_map.1 hz
     have:=(hs.tg hx).lt
     omega⟩)
   refine ⟨_,hp.2,?_,by show (a.xs ++ [y])[a.xs.length]?=some y;simp⟩
   have e3:(a.xs ++ [y]).map (·.m)=P.ring ++ [y.m]:=by rw [hs.ring];simp
   show PoolS w2 _ { P with ring:=P.ring ++ [y.m] } L D
   rw [<- e3]
   exact hp.1
 ·rw [if_neg hl] at h
  have hlen:0 < P.ring.length:=by have:=hn.m0;omega
  obtain ⟨X,hX⟩:∃ X,X=zNrE (2*P.most+1).toNat P L D:=⟨_,rfl⟩
  rw [<- hX] at h
  obtain ⟨k1,k2,k3,k4,k5,k6,k7,k8⟩:=z11k hn hlen hg hd (2*P.most+1).toNat
  rw [<- hX] at k1 k2 k3 k4 k5 k6 k7 k8
  have hfr:ziLQ P L D page=(if X.2.2.2.2≠0 then X else ({ X.1 with ring:=X.1.ring.set X.2.2.2.1 (newF page (X.2.2.1.latest (P.first+page))) },X.2.1,X.2.2.1,X.2.2.2.1,0)):=by
   unfold ziLQ
   rw [if_neg (by omega)]
   dsimp only
   rw [hno]
   dsimp only
   rw [if_neg hl,<- hX]
  dsimp only at h
  by_cases hx0:X.2.2.2.2≠0
  ·rw [if_pos hx0] at h hfr
   left
   exact ⟨X.1,X.2.1,X.2.2.1,X.2.2.2.1,X.2.2.2.2,hx0,h.1,hfr,h.2⟩
  ·rw [if_neg hx0] at h hfr
   obtain ⟨he,w0,a0,x0,ht0,hx,ht⟩:=h
   right
   have e0:=ht.s.pagesX
   have hnd0:(a0.xs.map (fun x=>x.m.page)).Nodup:=by rw [e0];exact k5.nd
   have hno0:∀ x∈a0.xs,x.m.page≠page:=fun x hx e=>by
    have hm:x.m.page∈a0.xs.map (fun x=>x.m.page):=List.mem_map_of_mem hx
    rw [e0,k4] at hm
    obtain ⟨f,hf,e2⟩:=List.mem_map.1 hm
    exact zfPR hno f hf (e2.trans e)
   have hvl:(ptrs a0.xs).length=a0.xs.length:=by simp [ptrs]
   have hkl:=(List.getElem?_eq_some_iff.1 hx).1
   refine ⟨X.2.2.2.1,he,X.1,X.2.1,X.2.2.1,w0,a0,a0.rv,_,_,(fun f=>{ X.1 with ring:=X.1.ring.set X.2.2.2.1 f }),ht0,ht,by omega,k1,DevM.mayE_ok (k8 (by simpa using hx0)) (by omega) (by rw [k7];omega),?_,hfr,?_⟩
   ·unfold delF
    split
    ·rfl
    ·cases hf:pagesF a0.xs page with
     | none=>rfl
     | some v=>
      obtain ⟨x,hx2,e,_⟩:=(zZSJ hnd0 _ _).1 hf
      exact absurd e (hno0 x hx2)
   ·intro w2 y hy hyk hyg hb ho hr hm hk
    have hset:(ptrs a0.xs).set X.2.2.2.1 (ptrV y.k)=ptrs (a0.xs.set X.2.2.2.1 y):=by unfold ptrs;rw [List.map_set]
    have sz:=ht.k.size
    have hp:=ht.place (xs':=a0.xs.set X.2.2.2.1 y) hyk hyg hb ho (ht.pb hk) (by rw [List.length_set,<- hset,<- hvl];exact hr) (by rw [<- z9AU hnd0 hx (by rw [hy];exact hno0),hy];exact hm) hk
     (fun x hx=>by rcases zq9d hx with h | ⟨j,_,hj⟩;exact .inl h;exact .inr (List.mem_of_getElem? hj))
     (by rw [List.map_set];exact zmc1 ht.s.ndk (fun hz=>by
      obtain ⟨x,hx,e⟩:=List.mem_map.1 hz
      have:=(ht.s.tk hx).lt
      omega))
     (by rw [List.map_set];exact zmc1 ht.s.ndg (fun hz=>by
      obtain ⟨x,hx,e⟩:=List.mem_map.1 hz
      have:=(ht.s.tg hx).lt
      omega))
    refine ⟨_,ht0.trans hp.2,?_,by show (a0.xs.set _ y)[X.2.2.2.1]?=some y;exact List.getElem?_set_self hkl⟩
    have e3:(a0.xs.set X.2.2.2.1 y).map (·.m)=X.1.ring.set X.2.2.2.1 y.m:=by rw [List.map_set,ht.s.ring]
    show PoolS w2 _ { X.1 with ring:=X.1.ring.set X.2.2.2.1 y.m } X.2.1 X.2.2.1
    rw [<- e3]
    exact hp.1
end
end Go.Proofs.Ytnbfhdgojmflhaa
