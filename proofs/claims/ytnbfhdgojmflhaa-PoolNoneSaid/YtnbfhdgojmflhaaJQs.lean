/-
  No statement is proved here.
-/
import Derived.Test.YtnbfhdgojmflhaaJBase
import Derived.Test.YtnbfhdgojmflhaaJQm
import Derived.Test.YtnbfhdgojmflhaaJLgp
namespace Go.Proofs.Ytnbfhdgojmflhaa
open Go.RowKit
open Go.ChangeMaps (setBlock heap_setBlock_same heap_setBlock_other)
section
variable {P:Program} {w:World} {b:Nat} {f:Int->Option Value} {t k e:TypeId}
theorem zfB4 {es:Array MapEntry} {j:Nat} {x:MapEntry}:x∈(es.eraseIdxIfInBounds j).toList↔∃ i,i≠j/\es[i]?=some x:=by
 unfold Array.eraseIdxIfInBounds
 split
 ·rename_i h
  rw [Array.toList_eraseIdx,List.mem_iff_getElem?]
  constructor
  ·rintro ⟨i,hi⟩
   rw [List.getElem?_eraseIdx] at hi
   split at hi
   ·exact ⟨i,by omega,by rw [<- Array.getElem?_toList];exact hi⟩
   ·exact ⟨i+1,by omega,by rw [<- Array.getElem?_toList];exact hi⟩
  ·rintro ⟨i,hne,hi⟩
   rw [<- Array.getElem?_toList] at hi
   by_cases c:i < j
   ·exact ⟨i,by rw [List.getElem?_eraseIdx,if_pos c];exact hi⟩
   ·refine ⟨i - 1,?_⟩
    rw [List.getElem?_eraseIdx,if_neg (by omega),show i - 1+1=i by omega]
    exact hi
 ·rename_i h
  rw [List.mem_iff_getElem?]
  constructor
  ·rintro ⟨i,hi⟩
   rw [Array.getElem?_toList] at hi
   exact ⟨i,by have:=(Array.getElem?_eq_some_iff.1 hi).1;omega,hi⟩
  ·rintro ⟨i,_,hi⟩
   exact ⟨i,by rw [Array.getElem?_toList];exact hi⟩
theorem zM7L {es:Array MapEntry} {clock:Nat} (hs:MapKept.Stamped es clock) {n:Int} {i j:Nat} {x y:MapEntry} (hi:es[i]?=some x) (hj:es[j]?=some y) (hx:x.key=.int .i64 n) (hy:y.key=.int .i64 n):i=j:=by
 have hp:=((MapKept.stamped_iff es clock).1 hs).2.2
 rcases Nat.lt_trichotomy i j with hlt | heq | hgt
 ·have:=List.pairwise_iff_getElem.1 hp i j (by simpa using (Array.getElem?_eq_some_iff.1 hi).1) (by simpa using (Array.getElem?_eq_some_iff.1 hj).1) hlt
  have e1:=(Array.getElem?_eq_some_iff.1 hi).2
  have e2:=(Array.getElem?_eq_some_iff.1 hj).2
  simp [e1,e2,hx,hy] at this
 ·exact heq
 ·have:=List.pairwise_iff_getElem.1 hp j i (by simpa using (Array.getElem?_eq_some_iff.1 hj).1) (by simpa using (Array.getElem?_eq_some_iff.1 hi).1) hgt
  have e1:=(Array.getElem?_eq_some_iff.1 hi).2
  have e2:=(Array.getElem?_eq_some_iff.1 hj).2
  simp [e1,e2,hx,hy] at this
theorem IMap.delete (h:IMap w b f) (ht:P.underlying t=some (.map k e)) (hk:P.underlying k=some (.int .i64)) (n:Int) (ty:TypeId) :
  ∃ w',(Builtin.delete_ #[t,k] ty #[.map (some b),.int .i64 n]).run P w=.ok (.tuple #[]) w'/\IMap w' b (delF f n)/\Kept (· = b) w w'/\w'.heap.size=w.heap.size:=by
 obtain ⟨es,clock,hb,hs,hks,hf⟩:=h
 have hkept:∀ o,Kept (fun x=>x=b) w (setBlock w b o):=fun o=>(Kept.refl (fun x=>x=b) w).setBlock (Or.inr rfl) _
 rcases zkwn hks hf n with ⟨h1,h2,hno⟩ | ⟨j,x,h1,hj,hxk,h2⟩
 ·refine ⟨setBlock w b (.map es clock),?_,⟨es,clock,heap_setBlock_same hb _,hs,hks,fun m v=>?_⟩,hkept _,by simp [setBlock]⟩
  ·simp [Builtin.delete_,run_underlying ht,MapKept.run_getObj_map hb,MapKept.run_checkKey hk (show MapKept.IsKey (.int .i64) (.int .i64 n) from rfl),MapKept.run_findKey hk h1,MapKept.run_setObj_map _ hb,Result.andThen,setBlock]
  ·unfold delF
   by_cases hm:m=n
   ·subst hm
    rw [if_pos rfl]
    constructor
    ·intro h;cases h
    ·rintro ⟨x,hx,hxk,_⟩;exact absurd hxk (hno x hx)
   ·rw [if_neg hm];exact hf m v
 ·refine ⟨setBlock w b (.map (es.eraseIdxIfInBounds j) clock),?_,⟨_,clock,heap_setBlock_same hb _,MapKept.stamped_erase hs _,fun x hx=>?_,fun m v=>?_⟩,hkept _,by simp [setBlock]⟩
  ·simp [Builtin.delete_,run_underlying ht,MapKept.run_getObj_map hb,MapKept.run_checkKey hk (show MapKept.IsKey (.int .i64) (.int .i64 n) from rfl),MapKept.run_findKey hk h1,MapKept.run_setObj_map _ hb,Result.andThen,setBlock]
  ·obtain ⟨i,_,hi⟩:=zfB4.1 hx
   exact hks x (by rw [Array.mem_toList_iff];exact Array.mem_of_getElem? hi)
  ·unfold delF
   by_cases hm:m=n
   ·subst hm
    rw [if_pos rfl]
    constructor
    ·intro h;cases h
    ·rintro ⟨y,hy,hyk,_⟩
     obtain ⟨i,hne,hi⟩:=zfB4.1 hy
     exact absurd (zM7L hs hi hj hyk hxk) hne
   ·rw [if_neg hm,hf]
    constructor
    ·rintro ⟨y,hy,hyk,hyv⟩
     rw [Array.mem_toList_iff,Array.mem_iff_getElem?] at hy
     obtain ⟨i,hi⟩:=hy
     refine ⟨y,zfB4.2 ⟨i,?_,hi⟩,hyk,hyv⟩
     rintro rfl
     rw [hj] at hi;cases hi
     rw [hxk] at hyk;injection hyk with _ e;exact hm e.symm
    ·rintro ⟨y,hy,hyk,hyv⟩
     obtain ⟨i,_,hi⟩:=zfB4.1 hy
     exact ⟨y,by rw [Array.mem_toList_iff];exact Array.mem_of_getElem? hi,hyk,hyv⟩
theorem zjvd {α:Type} [DecidableEq α]:∀ {l m:List α},l.Nodup->(∀ x∈l,x∈m)->l.length<=m.length
 | [],_,_,_=>Nat.zero_le _
 | x :: l,m,hn,hs=>by
  obtain ⟨h1,h2⟩:=List.nodup_cons.1 hn
  have hx:=hs x (List.mem_cons_self ..)
  have:=zjvd (m:=m.erase x) h2 (fun y hy=>by
   have hne:y≠x:=fun e=>h1 (e▸hy)
   exact (List.mem_erase_of_ne hne).2 (hs y (List.mem_cons_of_mem _ hy)))
  rw [List.length_erase_of_mem hx] at this
  have:=List.length_pos_of_mem hx
  simp only [List.length_cons]
  omega
theorem IMap.len (h:IMap w b f) (ht:P.underlying t=some (.map k e)) (ns:List Int) (hn:ns.Nodup) (hm:∀ n,n∈ns↔(f n).isSome=true) (ty:TypeId) :
  (Builtin.len_ #[t] ty #[.map (some b)]).run P w=.ok (.int .i64 ns.length) w:=by
 obtain ⟨es,clock,hb,hs,hks,hf⟩:=h
 have hkey:∀ x∈es.toList,∃ n,x.key=.int .i64 n:=fun x hx=>by
  have:=hks x hx
  cases hk:x.key<;>simp [MapKept.IsKey,hk] at this
  rename_i kk n
  subst this
  exact ⟨n,rfl⟩
 have hlen:es.size=ns.length:=by
  have hkn:(es.toList.map fun x=>intOf x.key).Nodup:=by
   have hp:=((MapKept.stamped_iff es clock).1 hs).2.2
   rw [List.nodup_iff_pairwise_ne,List.pairwise_map]
   refine List.Pairwise.imp_of_mem (fun {x y} hx hy hxy e=>?_) hp
   obtain ⟨n,hn⟩:=hkey x hx
   obtain ⟨m,hm⟩:=hkey y hy
   rw [hn,hm] at e hxy
   exact hxy (by rw [show n=m from e])
  have hmem:∀ n,n∈(es.toList.map fun x=>intOf x.key)↔n∈ns:=fun n=>by
   rw [hm n,List.mem_map]
   constructor
   ·rintro ⟨x,hx,e⟩
    obtain ⟨m,hm2⟩:=hkey x hx
    rw [hm2] at e
    rw [(hf n x.val).2 ⟨x,hx,by rw [hm2,show m=n from e],rfl⟩]
    rfl
   ·intro h
    obtain ⟨v,hv⟩:=Option.isSome_iff_exists.1 h
    obtain ⟨x,hx,hxk,_⟩:=(hf n v).1 hv
    exact ⟨x,hx,by rw [hxk];rfl⟩
  have h1:=zjvd hkn (fun n hn=>(hmem n).1 hn)
  have h2:=zjvd hn (fun n hn=>(hmem n).2 hn)
  simp only [List.length_map,Array.length_toList] at h1 h2
  omega
 simp only [Builtin.len_,Sem.run_bind,Result.andThen]
 simp [Sem.run_bind,run_underlying ht,MapKept.run_getObj_map hb,Result.andThen,hlen,goInt]
end
end Go.Proofs.Ytnbfhdgojmflhaa
namespace Go.Proofs.Ytnbfhdgojmflhaa
open Go.RowKit
structure FrD where
 m:FrM
 k:Nat
 g:Nat
 c:Nat
def ptrV (k:Nat):Value:=.pointer (some ⟨k,0,none⟩)
def frC (x:FrD):Array Value:=#[.int .i64 x.m.page,.slice (some ⟨x.g,0,none⟩) x.m.b.length x.c,.int .i64 x.m.held,.bool x.m.used,.bool x.m.dirty,.int .i64 x.m.first,.int .i64 x.m.last]
structure Adr where
 pb:Nat
 mb:Nat
 q:Nat
 p:Nat
 ms:Nat
 mo:Nat
 lv:Value
 tv:Value
 rv:Value
 xs:List FrD
def poolC (a:Adr) (P:PoolM):Array Value:=#[ptrV a.p,ptrV a.q,.int .i64 P.first,.int .i64 P.blocks,.int .i64 P.most,a.rv,.int .i64 P.hand,.map (some a.mb)]
def FrD.pg (x:FrD):Int×Nat:=(x.m.page,x.k)
def lookP (l:List (Int×Nat)):Int->Option Value:=fun n=>(l.find? (fun z=>z.1 == n)).map (fun z=>ptrV z.2)
def pagesF (xs:List FrD):Int->Option Value:=lookP (xs.map FrD.pg)
def Adr.logK (a:Adr) (x:Nat):Prop:=LogK a.q a.p a.ms a.mo a.lv a.tv x
def Adr.K (a:Adr) (x:Nat):Prop:=a.logK x\/x=a.pb\/x=a.mb\/a.rv.ownBlock=some x\/∃ y∈a.xs,x=y.k\/x=y.g
structure PoolS (w:World) (a:Adr) (P:PoolM) (L:LogM) (D:DevM):Prop where
 log:LogS w a.q a.p a.ms a.mo a.lv a.tv L D
 hp:w.heap[a.pb]?=some (.cells (poolC a P) 57 (0,0))
 map:IMap w a.mb (pagesF a.xs)
 row:w.ownsRow 0 92 1 a.rv a.xs.length (a.xs.map fun x=>ptrV x.k)
 fr:∀ x∈a.xs,w.heap[x.k]?=some (.cells (frC x) 94 (0,0))/\OwnB w 0 x.g x.c x.m.b
 ring:P.ring=a.xs.map (·.m)
 ndk:(a.xs.map (·.k)).Nodup
 ndg:(a.xs.map (·.g)).Nodup
 ngt:∀ x∈a.xs,a.tv.ownBlock≠some x.g
 nm:a.mb≠a.ms/\a.mb≠a.mo
theorem zxvD {w:World} {x y:Nat} {cs cs':Array Value} {t t':TypeId} {fr fr':Nat×Nat} (h:w.heap[x]?=some (.cells cs t fr)) (h':w.heap[y]?=some (.cells cs' t' fr')) (ht:t≠t'):x≠y:=by
 rintro rfl
 rw [h] at h'
 cases h'
 exact ht rfl
theorem zWjK {w:World} {x b:Nat} {cs:Array Value} {t:TypeId} {fr:Nat×Nat} {f:Int->Option Value} (h:w.heap[x]?=some (.cells cs t fr)) (h':IMap w b f):x≠b:=by
 rintro rfl
 obtain ⟨es,c,hb,_⟩:=h'
 rw [h] at hb
 cases hb
def IsT (w:World) (x:Nat) (t:TypeId):Prop:=∃ cs fr,w.heap[x]?=some (.cells cs t fr)
theorem IsT.ne {w:World} {x y:Nat} {t t':TypeId} (h:IsT w x t) (h':IsT w y t') (ht:t≠t'):x≠y:=by
 obtain ⟨_,_,h⟩:=h
 obtain ⟨_,_,h'⟩:=h'
 exact zxvD h h' ht
theorem IsT.nem {w:World} {x b:Nat} {t:TypeId} {f:Int->Option Value} (h:IsT w x t) (h':IMap w b f):x≠b:=by
 obtain ⟨_,_,h⟩:=h
 exact zWjK h h'
theorem IsT.lt {w:World} {x:Nat} {t:TypeId} (h:IsT w x t):x < w.heap.size:=by
 obtain ⟨_,_,h⟩:=h
 exact zvKu h
theorem za9a {w:World} {base:Nat} {e:TypeId} {size n:Nat} {v:Value} {xs:List Value} (h:w.ownsRow base e size v n xs) {x:Nat} (hx:v.ownBlock=some x):IsT w x e:=by
 rcases h.2 with ⟨rfl,_⟩ | ⟨g,cap,cur,rfl,_,hg,_⟩
 ·cases hx
 ·cases hx;exact ⟨_,_,hg⟩
section
variable {w w':World} {a:Adr} {P:PoolM} {L:LogM} {D:DevM}
theorem PoolS.tq (h:PoolS w a P L D):IsT w a.q 104:=⟨_,_,h.log.hq⟩
theorem PoolS.tp (h:PoolS w a P L D):IsT w a.p 101:=⟨_,_,h.log.dev.hp⟩
theorem PoolS.tpb (h:PoolS w a P L D):IsT w a.pb 57:=⟨_,_,h.hp⟩
theorem PoolS.trv (h:PoolS w a P L D) {x:Nat} (hx:a.rv.ownBlock=some x):IsT w x 92:=za9a h.row hx
theorem PoolS.tk (h:PoolS w a P L D) {y:FrD} (hy:y∈a.xs):IsT w y.k 94:=⟨_,_,(h.fr y hy).1⟩
theorem PoolS.tg (h:PoolS w a P L D) {y:FrD} (hy:y∈a.xs):IsT w y.g 5:=by
 obtain ⟨cur,_,hh,_⟩:=(h.fr y hy).2.form
 exact ⟨_,_,hh⟩
theorem PoolS.ttv (h:PoolS w a P L D) {x:Nat} (hx:a.tv.ownBlock=some x):IsT w x 5:=za9a h.log.ht hx
theorem PoolS.tlv (h:PoolS w a P L D) {x:Nat} (hx:a.lv.ownBlock=some x):IsT w x 2:=by
 rcases h.log.hl with ⟨e,_⟩ | ⟨g,off,c,cur,e,_,hg,_⟩
 ·rw [e] at hx;cases hx
 ·rw [e] at hx;cases hx;exact ⟨_,_,hg⟩
theorem PoolS.far (h:PoolS w a P L D) {x:Nat} (hx:a.logK x):x≠a.pb/\x≠a.mb/\a.rv.ownBlock≠some x/\∀ y∈a.xs,x≠y.k/\x≠y.g:=by
 have key:∀ {t:TypeId},IsT w x t->t≠57->t≠92->t≠94->(t≠5\/∀ y∈a.xs,x≠y.g)->x≠a.pb/\x≠a.mb/\a.rv.ownBlock≠some x/\∀ y∈a.xs,x≠y.k/\x≠y.g:=fun {t} ht t1 t2 t3 t4=>
  ⟨ht.ne h.tpb t1,ht.nem h.map,fun e=>ht.ne (h.trv e) t2 rfl,fun y hy=>⟨ht.ne (h.tk hy) t3,fun e=>by
   rcases t4 with t4 | t4
   ·exact ht.ne (h.tg hy) t4 e
   ·exact t4 y hy e⟩⟩
 have mkey:∀ {f:Int->Option Value},IMap w x f->x≠a.mb->x≠a.pb/\x≠a.mb/\a.rv.ownBlock≠some x/\∀ y∈a.xs,x≠y.k/\x≠y.g:=fun {f} hm hne=>
  ⟨fun e=>h.tpb.nem hm e.symm,hne,fun e=>(h.trv e).nem hm rfl,fun y hy=>⟨fun e=>(h.tk hy).nem hm e.symm,fun e=>(h.tg hy).nem hm e.symm⟩⟩
 rcases hx with rfl | rfl | rfl | rfl | hx | hx
 ·exact key h.tq (by decide) (by decide) (by decide) (.inl (by decide))
 ·exact key h.tp (by decide) (by decide) (by decide) (.inl (by decide))
 ·exact mkey h.log.dev.hs (fun e=>h.nm.1 e.symm)
 ·exact mkey h.log.dev.ho (fun e=>h.nm.2 e.symm)
 ·exact key (h.tlv hx) (by decide) (by decide) (by decide) (.inl (by decide))
 ·exact key (h.ttv hx) (by decide) (by decide) (by decide) (.inr fun y hy e=>h.ngt y hy (by rw [<- e];exact hx))
theorem PoolS.lt (h:PoolS w a P L D) {x:Nat} (hx:a.K x):x < w.heap.size:=by
 rcases hx with hx | rfl | rfl | hx | ⟨y,hy,rfl | rfl⟩
 ·rcases hx with rfl | rfl | rfl | rfl | hx | hx
  ·exact h.tq.lt
  ·exact h.tp.lt
  ·exact h.log.dev.hs.lt
  ·exact h.log.dev.ho.lt
  ·exact (h.tlv hx).lt
  ·exact (h.ttv hx).lt
 ·exact h.tpb.lt
 ·exact h.map.lt
 ·exact (h.trv hx).lt
 ·exact (h.tk hy).lt
 ·exact (h.tg hy).lt
theorem PoolS.keep {S:Nat->Prop} (h:PoolS w a P L D) (hk:Kept S w w') (hn:∀ x,a.K x->¬ S x):PoolS w' a P L D:=
 ⟨h.log.keep hk (fun x hx=>hn x (.inl hx)),hk.heap h.hp (hn _ (.inr (.inl rfl))),h.map.kept hk (hn _ (.inr (.inr (.inl rfl)))),zh0U h.row hk (fun x hx=>hn x (.inr (.inr (.inr (.inl hx))))),
  fun x hx=>⟨hk.heap (h.fr x hx).1 (hn _ (.inr (.inr (.inr (.inr ⟨x,hx,.inl rfl⟩))))),(h.fr x hx).2.keep hk (hn _ (.inr (.inr (.inr (.inr ⟨x,hx,.inr rfl⟩)))))⟩,h.ring,h.ndk,h.ndg,h.ngt,h.nm⟩
theorem PoolS.keep0 (h:PoolS w a P L D) (hk:Kept (fun _=>False) w w'):PoolS w' a P L D:=h.keep hk (fun _ _=>id)
structure Adr.Fix (a a':Adr):Prop where
 pb:a'.pb=a.pb
 mb:a'.mb=a.mb
 q:a'.q=a.q
 p:a'.p=a.p
 ms:a'.ms=a.ms
 mo:a'.mo=a.mo
theorem Adr.Fix.refl (a:Adr):a.Fix a:=⟨rfl,rfl,rfl,rfl,rfl,rfl⟩
theorem Adr.Fix.trans {a b c:Adr} (h:a.Fix b) (k:b.Fix c):a.Fix c:=⟨k.pb.trans h.pb,k.mb.trans h.mb,k.q.trans h.q,k.p.trans h.p,k.ms.trans h.ms,k.mo.trans h.mo⟩
def PPost (w:World) (a:Adr) (P':PoolM) (L':LogM) (D':DevM) (w':World):Prop:=∃ a',a.Fix a'/\PoolS w' a' P' L' D'/\Kept a.K w w'/\∀ x,a'.K x->a.K x\/w.heap.size<=x
theorem PPost.refl (h:PoolS w a P L D):PPost w a P L D w:=⟨a,.refl a,h,Kept.refl _ _,fun _ hx=>.inl hx⟩
theorem PPost.keep0 {P':PoolM} {L':LogM} {D':DevM} {w1 w2:World} (h:PPost w a P' L' D' w1) (hk:Kept (fun _=>False) w1 w2):PPost w a P' L' D' w2:=by
 obtain ⟨a',f,s,k,g⟩:=h
 exact ⟨a',f,s.keep0 hk,k.trans0 hk,g⟩
theorem PPost.early {P':PoolM} {L':LogM} {D':DevM} {w1 w2:World} (_hs:PoolS w a P L D) (hk:Kept (fun _=>False) w w1) (h:PPost w1 a P' L' D' w2):PPost w a P' L' D' w2:=by
 obtain ⟨a',f,s,k,g⟩:=h
 refine ⟨a',f,s,(hk.mono (fun _ _ h=>h.elim)).trans' k,fun x hx=>?_⟩
 rcases g x hx with h | h
 ·exact .inl h
 ·have:=hk.size;exact .inr (by omega)
def Adr.re (a:Adr) (lv tv:Value):Adr:={ a with lv:=lv,tv:=tv }
theorem PoolS.turn {S:Nat->Prop} {lv' tv':Value} {L':LogM} {D':DevM} (h:PoolS w a P L D) (hk:Kept S w w') (hS:∀ x,S x->a.logK x) (hs:LogS w' a.q a.p a.ms a.mo lv' tv' L' D') (hl:OwnTo w a.lv lv') (ht:OwnTo w a.tv tv') :
  PoolS w' (a.re lv' tv') P L' D'/\Kept a.K w w'/\∀ x,(a.re lv' tv').K x->a.K x\/w.heap.size<=x:=by
 have hf:∀ x,S x->x≠a.pb/\x≠a.mb/\a.rv.ownBlock≠some x/\∀ y∈a.xs,x≠y.k/\x≠y.g:=fun x hx=>h.far (hS x hx)
 refine ⟨⟨hs,hk.heap h.hp (fun e=>(hf _ e).1 rfl),h.map.kept hk (fun e=>(hf _ e).2.1 rfl),zh0U h.row hk (fun x hx e=>(hf _ e).2.2.1 hx),
  fun x hx=>⟨hk.heap (h.fr x hx).1 (fun e=>((hf _ e).2.2.2 x hx).1 rfl),(h.fr x hx).2.keep hk (fun e=>((hf _ e).2.2.2 x hx).2 rfl)⟩,h.ring,h.ndk,h.ndg,fun x hx e=>?_,h.nm⟩,hk.mono (fun x _ hx=>.inl (hS x hx)),fun x hx=>?_⟩
 ·rcases ht with h1 | h1
  ·exact h.ngt x hx (by rw [<- h1];exact e)
  ·have:=h1 _ e
   have:=(h.tg hx).lt
   omega
 ·rcases hx with hx | hx | hx | hx | hx
  ·rcases hx with hx | hx | hx | hx | hx | hx
   ·exact .inl (.inl (.inl hx))
   ·exact .inl (.inl (.inr (.inl hx)))
   ·exact .inl (.inl (.inr (.inr (.inl hx))))
   ·exact .inl (.inl (.inr (.inr (.inr (.inl hx)))))
   ·rcases hl with h1 | h1
    ·exact .inl (.inl (.inr (.inr (.inr (.inr (.inl (by rw [<- h1];exact hx)))))))
    ·exact .inr (h1 x hx)
   ·rcases ht with h1 | h1
    ·exact .inl (.inl (.inr (.inr (.inr (.inr (.inr (by rw [<- h1];exact hx)))))))
    ·exact .inr (h1 x hx)
  ·exact .inl (.inr (.inl hx))
  ·exact .inl (.inr (.inr (.inl hx)))
  ·exact .inl (.inr (.inr (.inr (.inl hx))))
  ·exact .inl (.inr (.inr (.inr (.inr hx))))
theorem zdvz {α:Type} {l:List α} (h:l.Nodup) {i j:Nat} {x:α} (hi:l[i]?=some x) (hj:l[j]?=some x):i=j:=by
 rw [List.nodup_iff_pairwise_ne,List.pairwise_iff_getElem] at h
 obtain ⟨i1,i2⟩:=List.getElem?_eq_some_iff.1 hi
 obtain ⟨j1,j2⟩:=List.getElem?_eq_some_iff.1 hj
 rcases Nat.lt_trichotomy i j with c | c | c
 ·exact absurd (i2.trans j2.symm) (h i j i1 j1 c)
 ·exact c
 ·exact absurd (j2.trans i2.symm) (h j i j1 i1 c)
theorem zBCX {α β:Type} {l:List α} {i:Nat} {x y:α} {f:α->β} (hx:l[i]?=some x) (hf:f y=f x):(l.set i y).map f=l.map f:=by
 rw [List.map_set]
 apply List.ext_getElem?
 intro j
 rw [List.getElem?_set]
 by_cases e:i=j
 ·subst e
  rw [if_pos rfl,List.getElem?_map,hx]
  have:=(List.getElem?_eq_some_iff.1 hx).1
  simp [this,hf]
 ·rw [if_neg e]
theorem zq9d {α:Type} {l:List α} {k:Nat} {g x:α} (h:x∈l.set k g):x=g\/∃ i,i≠k/\l[i]?=some x:=by
 obtain ⟨i,hi⟩:=List.getElem?_of_mem h
 by_cases e:k=i
 ·subst e
  have hl:k < l.length:=by have:=(List.getElem?_eq_some_iff.1 hi).1;simpa using this
  rw [List.getElem?_set_self hl] at hi
  exact .inl (Option.some.inj hi).symm
 ·rw [List.getElem?_set_ne e] at hi
  exact .inr ⟨i,fun e2=>e e2.symm,hi⟩
theorem PoolS.setF (h:PoolS w a P L D) {i:Nat} {x y:FrD} (hx:a.xs[i]?=some x) (hk:y.k=x.k) (hg:y.g=x.g) (hp:y.m.page=x.m.page) (hb:w'.heap[x.k]?=some (.cells (frC y) 94 (0,0))) (ho:OwnB w' 0 y.g y.c y.m.b)
  (hK:Kept (fun z=>z=x.k\/z=x.g) w w') :
  PoolS w' { a with xs:=a.xs.set i y } { P with ring:=P.ring.set i y.m } L D/\Kept a.K w w'/\∀ z,({ a with xs:=a.xs.set i y }:Adr).K z->a.K z\/w.heap.size<=z:=by
 have hxm:=List.mem_of_getElem? hx
 have tk:=h.tk hxm
 have tg:=h.tg hxm
 have e1:(a.xs.set i y).map FrD.k=a.xs.map FrD.k:=zBCX hx hk
 have e2:(a.xs.set i y).map FrD.g=a.xs.map FrD.g:=zBCX hx hg
 have far:∀ z,a.logK z->¬ (z=x.k\/z=x.g):=fun z hz e=>by
  have:=(h.far hz).2.2.2 x hxm
  rcases e with e | e
  ·exact this.1 e
  ·exact this.2 e
 refine ⟨⟨h.log.keep hK far,hK.heap h.hp (fun e=>?_),?_,?_,fun z hz=>?_,?_,by rw [e1];exact h.ndk,by rw [e2];exact h.ndg,fun z hz=>?_,h.nm⟩,hK.mono (fun z _ e=>?_),fun z hz=>?_⟩
 ·rcases e with e | e
  ·exact h.tpb.ne tk (by decide) e
  ·exact h.tpb.ne tg (by decide) e
 ·have e3:pagesF (a.xs.set i y)=pagesF a.xs:=by
   unfold pagesF
   rw [zBCX hx (show FrD.pg y=FrD.pg x from by unfold FrD.pg;rw [hp,hk])]
  show IMap w' a.mb (pagesF (a.xs.set i y))
  rw [e3]
  exact h.map.kept hK (fun e=>by
   rcases e with e | e
   ·exact tk.nem h.map e.symm
   ·exact tg.nem h.map e.symm)
 ·have e4:(a.xs.set i y).map (fun z=>ptrV z.k)=a.xs.map (fun z=>ptrV z.k):=zBCX hx (by rw [hk])
  show w'.ownsRow 0 92 1 a.rv (a.xs.set i y).length ((a.xs.set i y).map fun z=>ptrV z.k)
  rw [e4,List.length_set]
  exact zh0U h.row hK (fun z hz e=>by
   rcases e with e | e
   ·exact (h.trv hz).ne tk (by decide) e
   ·exact (h.trv hz).ne tg (by decide) e)
 ·rcases zq9d hz with rfl | ⟨j,hji,hj⟩
  ·exact ⟨by rw [hk];exact hb,ho⟩
  ·have hzm:=List.mem_of_getElem? hj
   have n1:z.k≠x.k:=fun e=>hji (zdvz h.ndk (x:=x.k) (by rw [List.getElem?_map,hj];exact congrArg some e) (by rw [List.getElem?_map,hx];rfl))
   have n2:z.g≠x.g:=fun e=>hji (zdvz h.ndg (x:=x.g) (by rw [List.getElem?_map,hj];exact congrArg some e) (by rw [List.getElem?_map,hx];rfl))
   refine ⟨hK.heap (h.fr z hzm).1 (fun e=>?_),(h.fr z hzm).2.keep hK (fun e=>?_)⟩
   ·rcases e with e | e
    ·exact n1 e
    ·exact (h.tk hzm).ne tg (by decide) e
   ·rcases e with e | e
    ·exact tk.ne (h.tg hzm) (by decide) e.symm
    ·exact n2 e
 ·show P.ring.set i y.m=(a.xs.set i y).map (·.m)
  rw [List.map_set,h.ring]
 ·rcases zq9d hz with rfl | ⟨j,hji,hj⟩
  ·rw [hg];exact h.ngt x hxm
  ·exact h.ngt z (List.mem_of_getElem? hj)
 ·rcases e with rfl | rfl
  ·exact .inr (.inr (.inr (.inr ⟨x,hxm,.inl rfl⟩)))
  ·exact .inr (.inr (.inr (.inr ⟨x,hxm,.inr rfl⟩)))
 ·rcases hz with hz | hz | hz | hz | ⟨v,hv,e⟩
  ·exact .inl (.inl hz)
  ·exact .inl (.inr (.inl hz))
  ·exact .inl (.inr (.inr (.inl hz)))
  ·exact .inl (.inr (.inr (.inr (.inl hz))))
  ·rcases zq9d hv with rfl | ⟨j,hji,hj⟩
   ·exact .inl (.inr (.inr (.inr (.inr ⟨x,hxm,by rw [<- hk,<- hg];exact e⟩))))
   ·exact .inl (.inr (.inr (.inr (.inr ⟨v,List.mem_of_getElem? hj,e⟩))))
end
end Go.Proofs.Ytnbfhdgojmflhaa
