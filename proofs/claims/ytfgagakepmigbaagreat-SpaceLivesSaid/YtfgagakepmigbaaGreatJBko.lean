/-
  No statement is proved here.
-/
import Derived.Test.YtfgagakepmigbaaGreatJQfl
import Derived.Test.YtfgagakepmigbaaGreatJBkg
import Derived.Test.YtfgagakepmigbaaGreatJQk
import Derived.Test.YtfgagakepmigbaaGreatJPdg
namespace Go.Proofs.YtfgagakepmigbaaGreat
open Go.RowKit
section
variable {w w' w1:World} {a:Adr} {P:PoolM} {L:LogM} {D:DevM}
theorem PoolS.app (h:PoolS w a P L D) (hg:LogG L) (q:Nat) (hq:a.q=q) (r:RecM) (A1:Option Addr) (c1:Nat) (A2:Option Addr) (c2:Nat) (ho:RecOk r) (h1:r.old.length<=1000000) (h2:r.new.length<=1000000) (hr1:RdB w A1 r.old) (hr2:RdB w A2 r.new) :
  Calls Tryz.prog 85 #[.pointer (some ⟨q,0,none⟩),.agg (recC r A1 c1 A2 c2)] w fun e w'=>e=.returned (.tuple #[.int .i64 (L.append r).2.1,.int .i64 (L.append r).2.2])/\∃ a',PoolS w' a' P (L.append r).1 D/\AdrTo w a w' a':=by
 subst hq
 have hti:isI L.turn:=by have:=hg.t1;have:=hg.t2;unfold isI;omega
 refine (z0zc w a.q a.p a.ms a.mo a.lv a.tv L D h.log hg.ok hti hg.tl hg.r.ll r A1 c1 A2 c2 ho h1 h2 hr1 hr2).mono ?_
 rintro e w' ⟨he,lv',tv',hs,hk,hl,ht⟩
 have:=h.turn hk (fun x hx=>by
  rcases hx with hx | hx | hx
  ·exact .inl hx
  ·exact .inr (.inr (.inr (.inr (.inl hx))))
  ·exact .inr (.inr (.inr (.inr (.inr hx))))) hs hl ht
 exact ⟨he,_,this.1,⟨⟨rfl,rfl,rfl,rfl,rfl,rfl⟩,this.2.1,this.2.2⟩⟩
theorem PoolS.trim (h:PoolS w a P L D) (hg:LogG L) (q:Nat) (hq:a.q=q) (n:Int) :
  Calls Tryz.prog 84 #[.pointer (some ⟨q,0,none⟩),.int .i64 n] w fun e w'=>e=.returned (.int .i64 (L.trim n).2)/\∃ a',PoolS w' a' P (L.trim n).1 D/\AdrTo w a w' a':=by
 subst hq
 refine (zV6y w a.q a.p a.ms a.mo a.lv a.tv L D h.log hg.r.ri hg.r.ll n).mono ?_
 rintro e w' ⟨he,lv',hs,hk,hl⟩
 have:=h.turn hk (fun x hx=>.inl hx) hs (.inl hl) (.inl rfl)
 exact ⟨he,_,this.1,⟨⟨rfl,rfl,rfl,rfl,rfl,rfl⟩,this.2.1,this.2.2⟩⟩
theorem PoolS.forceA (h:PoolS w a P L D) (hg:LogG L) (q:Nat) (hq:a.q=q) :
  Calls Tryz.prog 47 #[.pointer (some ⟨q,0,none⟩)] w fun e w'=>e=.returned (.int .i64 (L.force D).2.2)/\∃ a',PoolS w' a' P (L.force D).1 (L.force D).2.1/\AdrTo w a w' a':=by
 subst hq
 refine (h.force hg).mono ?_
 rintro e w' ⟨he,tv',hs,hk,hgr⟩
 exact ⟨he,_,hs,⟨⟨rfl,rfl,rfl,rfl,rfl,rfl⟩,hk,hgr⟩⟩
end
structure BkM where
 inT:Bool
 tx:Int
 last:Int
 done:List Int
 owed:Int
 count:Int
structure BAdr where
 a:Adr
 bk:Nat
 dv:Value
def bookC (x:BAdr) (b:BkM):Array Value:=#[ptrV x.a.p,ptrV x.a.q,ptrV x.a.pb,.bool b.inT,.int .i64 b.tx,.int .i64 b.last,x.dv,.int .i64 b.owed,.int .i64 b.count]
def BAdr.K (x:BAdr) (z:Nat):Prop:=x.a.K z\/z=x.bk\/x.dv.ownBlock=some z
structure BookS (w:World) (x:BAdr) (b:BkM) (P:PoolM) (L:LogM) (D:DevM):Prop where
 s:PoolS w x.a P L D
 hb:w.heap[x.bk]?=some (.cells (bookC x b) 30 (0,0))
 row:LsV w 0 x.dv b.done
 nd:∀ z,x.dv.ownBlock=some z->¬ x.a.K z
structure BAdr.Fix (x x':BAdr):Prop where
 a:x.a.Fix x'.a
 bk:x'.bk=x.bk
theorem BAdr.Fix.refl (x:BAdr):x.Fix x:=⟨.refl _,rfl⟩
theorem BAdr.Fix.trans {x y z:BAdr} (h:x.Fix y) (k:y.Fix z):x.Fix z:=⟨h.a.trans k.a,k.bk.trans h.bk⟩
structure BTo (w:World) (x:BAdr) (w':World) (x':BAdr):Prop where
 fix:x.Fix x'
 k:Kept x.K w w'
 g:∀ z,x'.K z->x.K z\/w.heap.size<=z
theorem BTo.refl (w:World) (x:BAdr):BTo w x w x:=⟨.refl x,Kept.refl _ _,fun _ h=>.inl h⟩
theorem BTo.trans {w w1 w2:World} {x x1 x2:BAdr} (h:BTo w x w1 x1) (k:BTo w1 x1 w2 x2):BTo w x w2 x2:=⟨h.fix.trans k.fix,h.k.trans k.k (fun z hz h'=>by
 rcases h.g z h' with h1 | h1
 ·exact h1
 ·omega),fun z hz=>by
 rcases k.g z hz with h1 | h1
 ·exact h.g z h1
 ·have:=h.k.size;exact .inr (by omega)⟩
theorem BTo.keep0 {w w1 w2:World} {x x1:BAdr} (h:BTo w x w1 x1) (k:Kept (fun _=>False) w1 w2):BTo w x w2 x1:=⟨h.fix,h.k.trans0 k,h.g⟩
theorem BTo.early {w w1 w2:World} {x x1:BAdr} (k:Kept (fun _=>False) w w1) (h:BTo w1 x w2 x1):BTo w x w2 x1:=⟨h.fix,(k.mono (fun _ _ h=>False.elim h)).trans' h.k,fun z hz=>by
 rcases h.g z hz with h1 | h1
 ·exact .inl h1
 ·have:=k.size;exact .inr (by omega)⟩
section
variable {w w' w1:World} {x x':BAdr} {b b':BkM} {P P':PoolM} {L L':LogM} {D D':DevM}
theorem BookS.tbk (h:BookS w x b P L D):IsT w x.bk 30:=⟨_,_,h.hb⟩
theorem BookS.nbk (h:BookS w x b P L D):¬ x.a.K x.bk:=fun hK=>by
 have hx:=h.tbk
 have h0:=h.s
 rcases hK with hK | e | e | hK | ⟨y,hy,e | e⟩
 ·rcases hK with e | e | e | e | hK | hK
  ·exact hx.ne h0.tq (by decide) e
  ·exact hx.ne h0.tp (by decide) e
  ·exact hx.nem h0.log.dev.hs e
  ·exact hx.nem h0.log.dev.ho e
  ·exact hx.ne (h0.tlv hK) (by decide) rfl
  ·exact hx.ne (h0.ttv hK) (by decide) rfl
 ·exact hx.ne h0.tpb (by decide) e
 ·exact hx.nem h0.map e
 ·exact hx.ne (h0.trv hK) (by decide) rfl
 ·exact hx.ne (h0.tk hy) (by decide) e
 ·exact hx.ne (h0.tg hy) (by decide) e
theorem LsV.T {w:World} {base:Nat} {v:Value} {l:List Int} (h:LsV w base v l) {z:Nat} (hz:v.ownBlock=some z):IsT w z 2:=by
 rcases h with ⟨rfl,_⟩ | ⟨g,off,c,cur,rfl,h2,h3,_⟩
 ·cases hz
 ·cases hz;exact ⟨_,_,h3⟩
theorem BookS.lt (h:BookS w x b P L D) {z:Nat} (hz:x.K z):z < w.heap.size:=by
 rcases hz with hz | rfl | hz
 ·exact h.s.lt hz
 ·exact zvKu h.hb
 ·exact (h.row.base_le hz).2
theorem BookS.keep {S:Nat->Prop} (h:BookS w x b P L D) (hk:Kept S w w') (hn:∀ z,x.K z->¬ S z):BookS w' x b P L D:=
 ⟨h.s.keep hk (fun z hz=>hn z (.inl hz)),hk.heap h.hb (hn _ (.inr (.inl rfl))),h.row.keep hk (fun z hz=>hn z (.inr (.inr hz))),h.nd⟩
theorem BookS.keep0 (h:BookS w x b P L D) (hk:Kept (fun _=>False) w w'):BookS w' x b P L D:=h.keep hk (fun _ _=>id)
theorem zpi4 {x x':BAdr} (h:x.a.Fix x'.a) (hd:x'.dv=x.dv) (b:BkM):bookC x' b=bookC x b:=by unfold bookC;rw [h.p,h.q,h.pb,hd]
theorem BookS.pool {a':Adr} (h:BookS w x b P L D) (ht:AdrTo w x.a w' a') (hs:PoolS w' a' P' L' D'):BookS w' { x with a:=a' } b P' L' D'/\BTo w x w' { x with a:=a' }:=by
 have hd:∀ z,x.dv.ownBlock=some z->¬ a'.K z:=fun z hz hK=>by
  rcases ht.g z hK with h1 | h1
  ·exact h.nd z hz h1
  ·have:=(h.row.base_le hz).2;omega
 refine ⟨⟨hs,?_,h.row.keep ht.k h.nd,hd⟩,⟨ht.fix,rfl⟩,ht.k.mono (fun z _ hz=>.inl hz),fun z hz=>?_⟩
 ·have e:bookC { x with a:=a' } b=bookC x b:=zpi4 (x:=x) (x':={ x with a:=a' }) ht.fix rfl b
  show w'.heap[x.bk]?=_
  rw [e]
  exact ht.k.heap h.hb h.nbk
 ·rcases hz with hz | hz | hz
  ·rcases ht.g z hz with h1 | h1
   ·exact .inl (.inl h1)
   ·exact .inr h1
  ·exact .inl (.inr (.inl hz))
  ·exact .inl (.inr (.inr hz))
theorem BookS.set (h:BookS w x b P L D) (hd:b'.done=b.done) (hb:w'.heap[x.bk]?=some (.cells (bookC x b') 30 (0,0))) (hk:Kept (fun z=>z=x.bk) w w'):BookS w' x b' P L D/\BTo w x w' x:=by
 have hn:∀ z,x.dv.ownBlock=some z->z≠x.bk:=fun z hz e=>(h.row.T hz).ne h.tbk (by decide) e
 refine ⟨⟨h.s.keep hk (fun z hz e=>h.nbk (by rw [<- e];exact hz)),hb,by rw [hd];exact h.row.keep hk hn,h.nd⟩,.refl x,hk.mono (fun z _ e=>.inr (.inl e)),fun z hz=>.inl hz⟩
theorem BookS.setDone {v:Value} (h:BookS w x b P L D) (hr:LsV w' 0 v b'.done) (hb:w'.heap[x.bk]?=some (.cells (bookC { x with dv:=v } b') 30 (0,0))) (hk:Kept (fun z=>z=x.bk\/x.dv.ownBlock=some z) w w') (hv:v.ownBlock=none\/v.ownBlock=x.dv.ownBlock\/∀ z,v.ownBlock=some z->w.heap.size<=z) :
  BookS w' { x with dv:=v } b' P L D/\BTo w x w' { x with dv:=v }:=by
 refine ⟨⟨h.s.keep hk (fun z hz e=>?_),hb,hr,fun z hz hK=>?_⟩,⟨.refl _,rfl⟩,hk.mono (fun z _ e=>by rcases e with e | e;exact .inr (.inl e);exact .inr (.inr e)),fun z hz=>?_⟩
 ·rcases e with e | e
  ·exact h.nbk (by rw [<- e];exact hz)
  ·exact h.nd z e hz
 ·rcases hv with hv | hv | hv
  ·rw [hv] at hz;cases hz
  ·exact h.nd z (by rw [<- hv];exact hz) hK
  ·have:=hv z hz;have:=h.s.lt hK;omega
 ·rcases hz with hz | hz | hz
  ·exact .inl (.inl hz)
  ·exact .inl (.inr (.inl hz))
  ·rcases hv with hv | hv | hv
   ·rw [hv] at hz;cases hz
   ·exact .inl (.inr (.inr (by rw [<- hv];exact hz)))
   ·exact .inr (hv z hz)
theorem BookS.notT (h:BookS w x b P L D) {y:Nat} {t:TypeId} (hx:IsT w y t) (t1:t≠118) (t2:t≠100) (t3:t≠143) (t4:t≠133) (t5:t≠137) (t6:t≠5) (t7:t≠2) (t8:t≠30):¬ x.K y:=fun hK=>by
 have h0:=h.s
 rcases hK with (hK | e | e | hK | ⟨y,hy,e | e⟩) | e | hK
 ·rcases hK with e | e | e | e | hK | hK
  ·exact hx.ne h0.tq t1 e
  ·exact hx.ne h0.tp t2 e
  ·exact hx.nem h0.log.dev.hs e
  ·exact hx.nem h0.log.dev.ho e
  ·exact hx.ne (h0.tlv hK) t7 rfl
  ·exact hx.ne (h0.ttv hK) t6 rfl
 ·exact hx.ne h0.tpb t3 e
 ·exact hx.nem h0.map e
 ·exact hx.ne (h0.trv hK) t4 rfl
 ·exact hx.ne (h0.tk hy) t5 e
 ·exact hx.ne (h0.tg hy) t6 e
 ·exact hx.ne h.tbk t8 e
 ·exact hx.ne (h.row.T hK) t7 rfl
end
def BkM.recB (b:BkM) (r:RecM):RecM:={ r with tx:=b.tx,prev:=b.last }
def BkM.app (b:BkM) (L:LogM) (r:RecM):BkM×LogM×Int:=(if (L.append (b.recB r)).2.2=0 then { b with last:=(L.append (b.recB r)).2.1 } else b,(L.append (b.recB r)).1,(L.append (b.recB r)).2.2)
section
variable {w w' w1:World} {x x':BAdr} {b b':BkM} {P P':PoolM} {L L':LogM} {D D':DevM}
theorem BookS.cells (h:BookS w x b P L D):w.cell? ⟨x.bk,0,none⟩=some (.pointer (some ⟨x.a.p,0,none⟩))/\w.cell? ⟨x.bk,1,none⟩=some (.pointer (some ⟨x.a.q,0,none⟩))/\w.cell? ⟨x.bk,2,none⟩=some (.pointer (some ⟨x.a.pb,0,none⟩))/\w.cell? ⟨x.bk,3,none⟩=some (.bool b.inT) /\
  w.cell? ⟨x.bk,4,none⟩=some (.int .i64 b.tx)/\w.cell? ⟨x.bk,5,none⟩=some (.int .i64 b.last)/\w.cell? ⟨x.bk,6,none⟩=some x.dv/\w.cell? ⟨x.bk,7,none⟩=some (.int .i64 b.owed)/\w.cell? ⟨x.bk,8,none⟩=some (.int .i64 b.count):=
 ⟨zcjX h.hb rfl,zcjX h.hb rfl,zcjX h.hb rfl,zcjX h.hb rfl,zcjX h.hb rfl,zcjX h.hb rfl,zcjX h.hb rfl,zcjX h.hb rfl,zcjX h.hb rfl⟩
theorem zGDM {x:BAdr} {b:BkM} (h:w'.heap[x.bk]?=some (.cells (bookC x b) 30 (0,0))):w'.cell? ⟨x.bk,0,none⟩=some (.pointer (some ⟨x.a.p,0,none⟩))/\w'.cell? ⟨x.bk,1,none⟩=some (.pointer (some ⟨x.a.q,0,none⟩))/\w'.cell? ⟨x.bk,2,none⟩=some (.pointer (some ⟨x.a.pb,0,none⟩))/\w'.cell? ⟨x.bk,3,none⟩=some (.bool b.inT) /\
  w'.cell? ⟨x.bk,4,none⟩=some (.int .i64 b.tx)/\w'.cell? ⟨x.bk,5,none⟩=some (.int .i64 b.last)/\w'.cell? ⟨x.bk,6,none⟩=some x.dv/\w'.cell? ⟨x.bk,7,none⟩=some (.int .i64 b.owed)/\w'.cell? ⟨x.bk,8,none⟩=some (.int .i64 b.count):=
 ⟨zcjX h rfl,zcjX h rfl,zcjX h rfl,zcjX h rfl,zcjX h rfl,zcjX h rfl,zcjX h rfl,zcjX h rfl,zcjX h rfl⟩
set_option maxRecDepth 100000 in
set_option maxHeartbeats 1600000 in
theorem zP7e (h:BookS w x b P L D) (hg:LogG L) (r:RecM) (A1:Option Addr) (c1:Nat) (A2:Option Addr) (c2:Nat) (ho:RecOk r) (i1:isI b.tx) (i2:isI b.last) (h1:r.old.length<=1000000) (h2:r.new.length<=1000000) (hr1:RdB w A1 r.old) (hr2:RdB w A2 r.new) :
  Calls Tryz.prog 46 #[ptrV x.bk,.agg (recC r A1 c1 A2 c2)] w fun e w'=>e=.returned (.int .i64 (b.app L r).2.2)/\∃ x',BTo w x w' x'/\BookS w' x' (b.app L r).1 P (b.app L r).2.1 D:=by
 have H:=qh h
 have HG:=qh hg
 have HO:=qh (show RecOk (b.recB r) from by obtain ⟨q1,q2,q3,q4,q5,q6,q7⟩:=ho;exact ⟨q1,q2,i1,i2,q5,q6,q7⟩)
 have HR1:=qh hr1
 have HR2:=qh hr2
 have H1:=qh h1
 have H2:=qh h2
 obtain ⟨n1,hn1⟩:∃ n1,n1=r.old.length:=⟨_,rfl⟩
 obtain ⟨n2,hn2⟩:∃ n2,n2=r.new.length:=⟨_,rfl⟩
 obtain ⟨POST,hPOST⟩:∃ POST:Int->World->Prop,POST=(fun n w'=>n=(b.app L r).2.2/\∃ x',BTo w x w' x'/\BookS w' x' (b.app L r).1 P (b.app L r).2.1 D):=⟨_,rfl⟩
 have HPO:=qh (show ∀ n w',POST n w'->(Ending.returned (.int .i64 n)=.returned (.int .i64 (b.app L r).2.2)/\∃ x',BTo w x w' x'/\BookS w' x' (b.app L r).1 P (b.app L r).2.1 D) from fun n w' h=>by rw [hPOST] at h;exact ⟨by rw [h.1],h.2⟩)
 have HPI:=qh (show ∀ n w',(n=(b.app L r).2.2/\∃ x',BTo w x w' x'/\BookS w' x' (b.app L r).1 P (b.app L r).2.1 D)->POST n w' from fun n w' h=>by rw [hPOST];exact h)
 have HAP:=qh (show b.app L r=(if (L.append (b.recB r)).2.2=0 then { b with last:=(L.append (b.recB r)).2.1 } else b,(L.append (b.recB r)).1,(L.append (b.recB r)).2.2) from rfl)
 clear h hg ho hr1 hr2 h1 h2 i1 i2 hPOST
 unfold ptrV
 go_enter Tryz.func46,Tryz.ntmps46
 go_wp2_with (refine znBH rfl 86 _ rfl (.agg (recC r A1 c1 A2 c2)) rfl ?_)
 intro gr wa l1 m1 hb1 hka
 have HGR:=qh (show wa.heap[gr]?=some (.cells (recC r A1 c1 A2 c2) 86 (0,0)) from hb1)
 have HKA:=qh hka
 have HS0:=qh (show (wa.drew).heap[x.bk]?=some (.cells (bookC x b) 30 (0,0)) from hka.heap H.out.hb id)
 have HC:=qh (fun (w':World) (h:w'.heap[x.bk]?=some (.cells (bookC x b) 30 (0,0)))=>zGDM h)
 have hgk:¬ gr=x.bk:=by have:=zvKu H.out.hb;omega
 clear hb1 hka
 go_wp2_with fail
 refine znCh 11 (fun w'=>w'.heap[x.bk]?=some (.cells (bookC x b) 30 (0,0))) (by kernel_rfl) HS0.out (fun hH=>?_)
 simp only [List.length_cons,List.length_nil,List.replicate]
 refine tK 0 ?_ (fun w' hw'=>?_) hH ?_
 rotate_left
 ·obtain ⟨c0,c1,c2,c3,c4,c5,c6,c7,c8⟩:=HC.out w' hw'
  go_simp<;>with_reducible rfl
 simp only [Act.put,oZa,oZb,oZc]
 refine tK 1 ?_ (fun w' hw'=>?_) hH ?_
 rotate_left
 ·obtain ⟨c0,c1,c2,c3,c4,c5,c6,c7,c8⟩:=HC.out w' hw'
  go_simp<;>with_reducible rfl
 simp only [Act.put,oZa,oZb,oZc]
 refine tK 2 ?_ (fun w' hw'=>?_) hH ?_
 rotate_left
 ·obtain ⟨c0,c1,c2,c3,c4,c5,c6,c7,c8⟩:=HC.out w' hw'
  go_simp<;>with_reducible rfl
 simp only [Act.put,oZa,oZb,oZc]
 refine tK 3 ?_ (fun w' hw'=>?_) hH ?_
 rotate_left
 ·obtain ⟨c0,c1,c2,c3,c4,c5,c6,c7,c8⟩:=HC.out w' hw'
  go_simp<;>with_reducible rfl
 simp only [Act.put,oZa,oZb,oZc]
 refine tK 4 ?_ (fun w' hw'=>?_) hH ?_
 rotate_left
 ·obtain ⟨c0,c1,c2,c3,c4,c5,c6,c7,c8⟩:=HC.out w' hw'
  go_simp<;>with_reducible rfl
 simp only [Act.put,oZa,oZb,oZc]
 refine tK 5 ?_ (fun w' hw'=>?_) hH ?_
 rotate_left
 ·obtain ⟨c0,c1,c2,c3,c4,c5,c6,c7,c8⟩:=HC.out w' hw'
  go_simp<;>with_reducible rfl
 simp only [Act.put,oZa,oZb,oZc]
 refine tK 6 ?_ (fun w' hw'=>?_) hH ?_
 rotate_left
 ·obtain ⟨c0,c1,c2,c3,c4,c5,c6,c7,c8⟩:=HC.out w' hw'
  go_simp<;>with_reducible rfl
 simp only [Act.put,oZa,oZb,oZc]
 refine tK 7 ?_ (fun w' hw'=>?_) hH ?_
 rotate_left
 ·obtain ⟨c0,c1,c2,c3,c4,c5,c6,c7,c8⟩:=HC.out w' hw'
  go_simp<;>with_reducible rfl
 simp only [Act.put,oZa,oZb,oZc]
 refine tK 8 ?_ (fun w' hw'=>?_) hH ?_
 rotate_left
 ·obtain ⟨c0,c1,c2,c3,c4,c5,c6,c7,c8⟩:=HC.out w' hw'
  go_simp<;>with_reducible rfl
 simp only [Act.put,oZa,oZb,oZc]
 refine stepL 9 rfl (by kernel_rfl) (fun K hK=>?_)
 refine zRRc rfl 2 _ _ rfl gr 3 (.int .i64 b.tx) (recC r A1 c1 A2 c2) rfl rfl HGR.out (by kernel_rfl) (by show 3 < 10;decide) rfl ?_
 intro wb hb2 hkb
 have HGR2:=qh (show wb.heap[gr]?=some (.cells (recC { r with tx:=b.tx } A1 c1 A2 c2) 86 (0,0)) from hb2)
 have HS2:=qh (hkb.heap HS0.out (fun e=>hgk e.symm))
 have HKB:=qh ((HKA.out.drew).new hkb (fun z hz=>by subst hz;exact l1))
 clear hb2 hkb HGR
 refine hK.out _ _ (fun _=>HS2.out) (fun _=>?_)
 simp only [oZa,oZb,oZc]
 clear hK K hH
 refine tK 10 ?_ (fun w' hw'=>?_) HS2.out ?_
 rotate_left
 ·skip
  go_simp<;>with_reducible rfl
 simp only [Act.put,oZa,oZb,oZc]
 refine stepL 11 rfl (by kernel_rfl) (fun K hK=>?_)
 refine zRRc rfl 2 _ _ rfl gr 4 (.int .i64 b.last) (recC { r with tx:=b.tx } A1 c1 A2 c2) rfl rfl HGR2.out (by kernel_rfl) (by show 4 < 10;decide) rfl ?_
 intro wc hb3 hkc
 have HGR3:=qh (show wc.heap[gr]?=some (.cells (recC (b.recB r) A1 c1 A2 c2) 86 (0,0)) from hb3)
 have HKC:=qh (HKB.out.new hkc (fun z hz=>by subst hz;exact l1))
 clear hb3 hkc HGR2 HS2 HS0
 refine hK.out _ _ (fun h=>absurd rfl h) (fun _=>?_)
 simp only [oZa,oZb,oZc]
 clear hK K
 refine doneL (by kernel_rfl) ?_ _
 have HSC:=qh (H.out.keep0 (HKC.out.drew))
 have HSS:=qh (show (wc.drew).heap[x.bk]?=some (.cells (bookC x b) 30 (0,0))/\(wc.drew).heap[gr]?=some (.cells (recC (b.recB r) A1 c1 A2 c2) 86 (0,0)) from ⟨HSC.out.hb,HGR3.out⟩)
 have HCL:=qh (HSC.out.s.app HG.out x.a.q rfl (b.recB r) A1 c1 A2 c2 HO.out H1.out H2.out (HR1.out.kept HKC.out.drew (fun _ _ _ _=>id)) (HR2.out.kept HKC.out.drew (fun _ _ _ _=>id)))
 obtain ⟨X,hX⟩:∃ X,X=L.append (b.recB r):=⟨_,rfl⟩
 rw [<- hX] at HCL HAP
 obtain ⟨R,hR⟩:∃ R,R=b.recB r:=⟨_,rfl⟩
 rw [<- hR] at HSS HCL HGR3
 have HRL:=qh (show R.old.length=n1/\R.new.length=n2 from by rw [hR,hn1,hn2];exact ⟨rfl,rfl⟩)
 clear hX hR hn1 hn2
 go_wp2_with fail
 refine znCh 10 (fun w'=>w'.heap[x.bk]?=some (.cells (bookC x b) 30 (0,0))/\w'.heap[gr]?=some (.cells (recC R A1 c1 A2 c2) 86 (0,0))) (by kernel_rfl) HSS.out (fun hH=>?_)
 simp only [List.length_cons,List.length_nil,List.replicate]
 refine tK 0 ?_ (fun w' hw'=>?_) hH ?_
 rotate_left
 ·obtain ⟨c0,c1,c2,c3,c4,c5,c6,c7,c8⟩:=HC.out w' hw'.1
  go_simp<;>with_reducible rfl
 simp only [Act.put,oZa,oZb,oZc]
 refine tK 1 ?_ (fun w' hw'=>?_) hH ?_
 rotate_left
 ·obtain ⟨c0,c1,c2,c3,c4,c5,c6,c7,c8⟩:=HC.out w' hw'.1
  go_simp<;>with_reducible rfl
 simp only [Act.put,oZa,oZb,oZc]
 refine tK 2 ?_ (fun w' hw'=>?_) hH ?_
 rotate_left
 ·obtain ⟨c0,c1,c2,c3,c4,c5,c6,c7,c8⟩:=HC.out w' hw'.1
  go_simp<;>with_reducible rfl
 simp only [Act.put,oZa,oZb,oZc]
 refine tK 3 ?_ (fun w' hw'=>?_) hH ?_
 rotate_left
 ·obtain ⟨c0,c1,c2,c3,c4,c5,c6,c7,c8⟩:=HC.out w' hw'.1
  go_simp<;>with_reducible rfl
 simp only [Act.put,oZa,oZb,oZc]
 refine tK 4 ?_ (fun w' hw'=>?_) hH ?_
 rotate_left
 ·obtain ⟨r0,r1,r2,r3,r4,r5,r6,r7,r8,r9⟩:=z89M hw'.2
  go_simp<;>with_reducible rfl
 simp only [Act.put,oZa,oZb,oZc]
 refine stepL 5 rfl (by kernel_rfl) (fun K hK=>?_)
 go_simp
 refine HCL.out.mono ?_
 rintro e wd ⟨rfl,a1,hs1,ht1⟩
 have hbp:=HSC.out.pool ht1 hs1
 have HBS:=qh hbp.1
 have HBT:=qh ((BTo.refl w x).keep0 HKC.out.drew |>.trans hbp.2)
 have HDD:=qh (show wd.heap[x.bk]?=some (.cells (bookC x b) 30 (0,0))/\wd.heap[gr]?=some (.cells (recC R A1 c1 A2 c2) 86 (0,0)) from ⟨ht1.k.heap HSC.out.hb HSC.out.nbk,ht1.k.heap HSS.out.2 (fun hK=>by have:=H.out.s.lt hK;omega)⟩)
 obtain ⟨X1,n,c⟩:=X
 clear hs1 ht1 hbp HCL
 go_simp
 refine hK.out _ _ (fun _=>HDD.out) (fun _=>?_)
 simp only [oZa,oZb,oZc]
 clear hK K hH
 refine tK 6 ?_ (fun w' hw'=>?_) HDD.out ?_
 rotate_left
 ·skip
  go_simp<;>with_reducible rfl
 simp only [Act.put,oZa,oZb,oZc]
 refine tK 7 ?_ (fun w' hw'=>?_) HDD.out ?_
 rotate_left
 ·skip
  go_simp<;>with_reducible rfl
 simp only [Act.put,oZa,oZb,oZc]
 refine tK 8 ?_ (fun w' hw'=>?_) HDD.out ?_
 rotate_left
 ·skip
  go_simp<;>with_reducible rfl
 simp only [Act.put,oZa,oZb,oZc]
 refine stepL 9 rfl (by kernel_rfl) (fun K hK=>?_)
 go_simp
 refine hK.out _ _ (fun _=>HDD.out) (fun _=>?_)
 simp only [oZa,oZb,oZc]
 clear hK K
 refine stepL 10 rfl (by kernel_rfl) (fun K hK=>?_)
 go_simp
 refine hK.out _ _ (fun h=>absurd rfl h) (fun _=>?_)
 simp only [oZa,oZb,oZc]
 clear hK K
 refine doneL (by kernel_rfl) ?_ _
 by_cases hc:c=0
 ·subst hc
  have HE:=qh (show b.app L r=({ b with last:=n },X1,0) from by rw [HAP.out];rfl)
  go_wp2_with (refine z2q7 rfl _ _ _ rfl x.bk 5 (.int .i64 n) (bookC x b) rfl rfl HDD.out.1 (by kernel_rfl) (by show 5 < 9;decide) rfl ?_)
  intro we hb5 hke
  have hst:=HBS.out.set (b':={ b with last:=n }) rfl (by
   have e:bookC { x with a:=a1 } { b with last:=n }=(bookC x b).setIfInBounds 5 (.int .i64 n):=by
    rw [zpi4 (x:=x) (x':={ x with a:=a1 }) HBT.out.fix.a rfl];rfl
   rw [e];exact hb5) hke
  have HST:=qh hst
  clear hb5 hke hst
  go_wp2
  go_ret
  refine HPO.out 0 _ (HPI.out 0 _ ?_)
  rw [HE.out]
  exact ⟨rfl,_,HBT.out.trans HST.out.2,HST.out.1⟩
 ·have hcb:(c == 0)=false:=by rw [beq_eq_false_iff_ne];exact hc
  have HE:=qh (show b.app L r=(b,X1,c) from by rw [HAP.out];dsimp only;rw [if_neg hc])
  clear hc
  go_wp2
  go_ret
  refine HPO.out c _ (HPI.out c _ ?_)
  rw [HE.out]
  exact ⟨rfl,_,HBT.out,HBS.out⟩
end
def LenD (D:DevM):Prop:=(∀ k l,D.safe k=some l->l.length=512)/\∀ k l,D.opn k=some l->l.length=512
theorem LenD.latest {D:DevM} (h:LenD D) (k:Int):(D.latest k).length=512:=by
 unfold DevM.latest
 cases ho:D.opn k with
 | some l=>exact h.2 k l ho
 | none=>
  cases hs:D.safe k with
  | some l=>exact h.1 k l hs
  | none=>exact zrlC 512
theorem DevAt.lenD {w:World} {p ms mo:Nat} {D:DevM} (h:DevAt w p ms mo D):LenD D:=⟨h.ls,h.lo⟩
theorem LenD.crash {D:DevM} (h:LenD D):LenD D.crash:=by
 obtain ⟨_,h2,h3⟩:=z4HA D
 exact ⟨fun k l hl=>h.1 k l (by rw [<- h2];exact hl),fun k l hl=>h.2 k l (by rw [<- h3];exact hl)⟩
theorem LenD.put {D:DevM} (h:LenD D) (b:Int) {pg:Bytes} (hp:pg.length=512):LenD (D.put b pg):=by
 refine ⟨h.1,fun k l hl=>?_⟩
 have hl2:updF D.opn b pg k=some l:=hl
 unfold updF at hl2
 split at hl2
 ·cases hl2;exact hp
 ·exact h.2 k l hl2
theorem LenD.write {D:DevM} (h:LenD D) (b:Int) (pg:Bytes):LenD (D.write b pg).2:=by
 unfold DevM.write
 split
 ·exact h
 ·split
  ·exact h
  ·rename_i hl
   exact (h.put b (by simpa using hl)).crash
theorem LenD.sync {D:DevM} (h:LenD D):LenD D.sync:=by
 refine ⟨fun k l hl=>?_,fun k l hl=>by cases hl⟩
 have:orF D.opn D.safe k=some l:=hl
 unfold orF at this
 cases ho:D.opn k with
 | some m=>rw [ho] at this;cases this;exact h.2 k _ ho
 | none=>rw [ho] at this;exact h.1 k l this
theorem LenD.syncR {D:DevM} (h:LenD D):LenD D.syncR.2:=by
 unfold DevM.syncR
 split
 ·exact h
 ·split
  ·exact h.crash
  ·exact h.crash.sync
theorem LenD.pour (F C T:Int):∀ (f:Nat) {D:DevM} (rest:Bytes) (fst:Int),LenD D->LenD (pourM F C T f D rest fst).1
 | 0,_,_,_,h=>h
 | f+1,D,rest,fst,h=>by
  unfold pourM
  split
  ·exact h
  ·split
   ·exact h
   ·dsimp only
    split
    ·exact h.write _ _
    ·exact LenD.pour F C T f _ _ (h.write _ _)
theorem LenD.force {D:DevM} (h:LenD D) (L:LogM):LenD (L.force D).2.1:=by
 by_cases hs:L.safe=L.fin
 ·rw [zOAL hs];exact h
 ·have hv:L.force D=if (pourM L.first L.count L.turn (L.tail.length+1) D L.tail L.beg).2≠0 then (L,(pourM L.first L.count L.turn (L.tail.length+1) D L.tail L.beg).1,(pourM L.first L.count L.turn (L.tail.length+1) D L.tail L.beg).2) else L.forceEnd (pourM L.first L.count L.turn (L.tail.length+1) D L.tail L.beg).1:=by unfold LogM.force;rw [if_neg hs];rfl
  have hp:=LenD.pour L.first L.count L.turn (L.tail.length+1) L.tail L.beg h
  generalize pourM L.first L.count L.turn (L.tail.length+1) D L.tail L.beg=X at hv hp
  rw [hv]
  split
  ·exact hp
  ·unfold LogM.forceEnd
   dsimp only
   have hy:LenD (if secO L.count L.fin=0/\secF L.fin=L.fin then X.1.write (secB L.first L.count L.fin) (zeros 512) else ((0:Int),X.1)).2:=by
    split
    ·exact hp.write _ _
    ·exact hp
   generalize (if secO L.count L.fin=0/\secF L.fin=L.fin then X.1.write (secB L.first L.count L.fin) (zeros 512) else ((0:Int),X.1))=Y at hy
   split
   ·exact hy
   ·split
    ·exact hy.syncR
    ·exact hy.syncR
theorem LenD.wrF {D:DevM} (h:LenD D) (pf:Int) (f:FrM) (L:LogM):LenD (wrF pf f L D).2.2.1:=by
 obtain ⟨y,hy⟩:∃ y,y=(if L.safe<=f.last then L.force D else (L,D,0)):=⟨_,rfl⟩
 have e:Go.Proofs.YtfgagakepmigbaaGreat.wrF pf f L D=(if y.2.2≠0 then (f,y.1,y.2.1,y.2.2) else if (y.2.1.write (pf+f.page) f.b).1≠0 then (f,y.1,(y.2.1.write (pf+f.page) f.b).2,(y.2.1.write (pf+f.page) f.b).1) else ({ f with dirty:=false,first:=0 },y.1,(y.2.1.write (pf+f.page) f.b).2,0)):=by rw [hy];rfl
 have hl:LenD y.2.1:=by
  rw [hy]
  split
  ·exact h.force L
  ·exact h
 rw [e]
 split
 ·exact hl
 ·split
  ·exact hl.write _ _
  ·exact hl.write _ _
def LenP (P:PoolM):Prop:=∀ f∈P.ring,f.b.length=512
theorem wrF_b (pf:Int) (f:FrM) (L:LogM) (D:DevM):(wrF pf f L D).1.b=f.b:=by
 obtain ⟨y,hy⟩:∃ y,y=(if L.safe<=f.last then L.force D else (L,D,0)):=⟨_,rfl⟩
 have e:wrF pf f L D=(if y.2.2≠0 then (f,y.1,y.2.1,y.2.2) else if (y.2.1.write (pf+f.page) f.b).1≠0 then (f,y.1,(y.2.1.write (pf+f.page) f.b).2,(y.2.1.write (pf+f.page) f.b).1) else ({ f with dirty:=false,first:=0 },y.1,(y.2.1.write (pf+f.page) f.b).2,0)):=by rw [hy];rfl
 rw [e]
 split
 ·rfl
 ·split<;>rfl
theorem LenP.set {P:PoolM} (h:LenP P) {k:Nat} {g:FrM} (hg:g.b.length=512) (n:Int):LenP { P with hand:=n,ring:=P.ring.set k g }:=fun f hf=>by
 rcases zunS hf with rfl | ⟨i,_,hi⟩
 ·exact hg
 ·exact h f (List.mem_of_getElem? hi)
theorem z3DD:∀ (n:Nat) {P:PoolM} {L:LogM} {D:DevM},LenP P->LenD D->LenP (zNrE n P L D).1/\LenD (zNrE n P L D).2.2.1
 | 0,P,L,D,hp,hd=>⟨hp,hd⟩
 | n+1,P,L,D,hp,hd=>by
  cases hk:P.ring[(P.hand % P.ring.length).toNat]? with
  | none=>
   unfold zNrE
   dsimp only
   rw [hk]
   exact ⟨hp,hd⟩
  | some f=>
   have hf:=hp f (List.mem_of_getElem? hk)
   rw [zHZI rfl hk]
   split
   ·exact z3DD n (P:={ P with hand:=_ }) hp hd
   ·split
    ·exact z3DD n (hp.set (g:={ f with used:=false }) hf _) hd
    ·split
     ·dsimp only
      split
      ·exact ⟨hp,hd.wrF _ _ _⟩
      ·exact ⟨hp.set (by rw [wrF_b];exact hf) _,hd.wrF _ _ _⟩
     ·exact ⟨hp,hd⟩
theorem zOOk {P:PoolM} {L:LogM} {D:DevM} (hp:LenP P) (hd:LenD D) (page:Int):LenP (ziLQ P L D page).1/\LenD (ziLQ P L D page).2.2.1:=by
 unfold ziLQ
 split
 ·exact ⟨hp,hd⟩
 ·dsimp only
  cases hx:P.ring[P.at page]? with
  | some f=>exact ⟨hp.set (g:={ f with used:=true }) (hp f (List.mem_of_getElem? hx)) P.hand,hd⟩
  | none=>
   dsimp only
   split
   ·refine ⟨fun f hf=>?_,hd⟩
    rcases List.mem_append.1 hf with hf | hf
    ·exact hp f hf
    ·rw [List.mem_singleton] at hf;subst hf;exact hd.latest _
   ·obtain ⟨e1,e2⟩:=z3DD (2*P.most+1).toNat (L:=L) hp hd
    generalize zNrE (2*P.most+1).toNat P L D=X at e1 e2
    split
    ·exact ⟨e1,e2⟩
    ·exact ⟨e1.set (e2.latest _) X.1.hand,e2⟩
theorem zxTr {P:PoolM} {L:LogM} {D:DevM} (hp:LenP P) (hd:LenD D) (page:Int) {f:FrM} {i:Nat} (h:(ziLQ P L D page).1.ring[i]?=some f):f.b.length=512:=(zOOk hp hd page).1 f (List.mem_of_getElem? h)
def BkM.chg (b:BkM) (P:PoolM) (L:LogM) (D:DevM) (r:RecM):BkM×PoolM×LogM×DevM×Int:=
 if (b.app L r).2.2≠0 then ((b.app L r).1,P,(b.app L r).2.1,D,(b.app L r).2.2) else
 ((b.app L r).1,zpi7 P (b.app L r).2.1 D r.blk r.off r.new (b.app L r).1.last)
section
variable {w w' w1:World} {x x':BAdr} {b b':BkM} {P P':PoolM} {L L':LogM} {D D':DevM}
set_option maxRecDepth 100000 in
set_option maxHeartbeats 1600000 in
theorem z72U (h:BookS w x b P L D) (hg:LogG L) (r:RecM) (A1:Option Addr) (c1:Nat) (A2:Option Addr) (c2:Nat) (ho:RecOk r) (i1:isI b.tx) (i2:isI b.last) (h1:r.old.length<=1000000) (h2:r.new.length<=1000000) (hr1:RdB w A1 r.old) (hr2:RdB w A2 r.new) (gb gr:Nat)
  (hgb:w.heap[gb]?=some (.cells #[ptrV x.bk] 24 (0,0))) (hgr:w.heap[gr]?=some (.cells (recC r A1 c1 A2 c2) 86 (0,0))) :
  Calls Tryz.prog 93 #[.pointer (some ⟨gb,0,none⟩),.pointer (some ⟨gr,0,none⟩)] w fun e w'=>e=.returned (.int .i64 (b.app L r).2.2)/\∃ x',BTo w x w' x'/\BookS w' x' (b.app L r).1 P (b.app L r).2.1 D:=by
 have HA:=qh (zP7e h hg r A1 c1 A2 c2 ho i1 i2 h1 h2 hr1 hr2)
 have d0:w.cell? ⟨gb,0,none⟩=some (.pointer (some ⟨x.bk,0,none⟩)):=zcjX hgb rfl
 have HR:=qh (z89M hgr)
 obtain ⟨V,hV⟩:∃ V,V=b.app L r:=⟨_,rfl⟩
 rw [<- hV] at HA ⊢
 unfold ptrV at HA
 clear h hg ho hr1 hr2 hgb hgr hV h1 h2 i1 i2
 go_enter Tryz.func93,Tryz.ntmps93
 obtain ⟨r0,r1,r2,r3,r4,r5,r6,r7,r8,r9⟩:=HR.out
 go_wp2_with fail
 refine HA.out.mono ?_
 rintro e w1 ⟨rfl,hx⟩
 have HX:=qh hx
 clear hx HA
 go_wp2
 go_ret
 exact ⟨rfl,HX.out⟩
set_option maxRecDepth 100000 in
set_option maxHeartbeats 1600000 in
theorem zJ4d (h:BookS w x b P L D) (hg:LogG L) (hn:PoolN P) (hd:D.down=false) (hD:P.first+P.blocks<=D.n) (hp:LenP P) (r:RecM) (A1:Option Addr) (c1:Nat) (A2:Option Addr) (c2:Nat) (hr2:RdB w A2 r.new) (hmK:∀ b o,A2=some ⟨b,o,none⟩->b < w.heap.size->¬ x.K b) (gb gr:Nat)
  (hgb:w.heap[gb]?=some (.cells #[ptrV x.bk] 24 (0,0))) (hgr:w.heap[gr]?=some (.cells (recC r A1 c1 A2 c2) 86 (0,0))) :
  Calls Tryz.prog 94 #[.pointer (some ⟨gb,0,none⟩),.pointer (some ⟨gr,0,none⟩)] w fun e w'=>e=.returned (.int .i64 (zpi7 P L D r.blk r.off r.new b.last).2.2.2)/\∃ x',BTo w x w' x'/\BookS w' x' b (zpi7 P L D r.blk r.off r.new b.last).1 (zpi7 P L D r.blk r.off r.new b.last).2.1 (zpi7 P L D r.blk r.off r.new b.last).2.2.1:=by
 have HCH:=qh (zDLA (w:=w.drew) (h.s.keep0 ((Kept.refl (fun _=>False) w).drew)) hg hn hd hD r.blk r.off A1 r.old.length c1 A2 r.new c2 b.last (hr2.kept ((Kept.refl (fun _=>False) w).drew) (fun _ _ _ _=>id)) (fun b o e hlt hK=>hmK b o e hlt (.inl hK)) (fun f hf _=>zxTr hp h.s.log.dev.lenD r.blk hf))
 have H:=qh h
 have HS0:=qh (show (w.drew).heap[gb]?=some (.cells #[.pointer (some ⟨x.bk,0,none⟩)] 24 (0,0))/\(w.drew).heap[gr]?=some (.cells (recC r A1 c1 A2 c2) 86 (0,0))/\(w.drew).heap[x.bk]?=some (.cells (bookC x b) 30 (0,0)) from ⟨hgb,hgr,h.hb⟩)
 have HC:=qh (fun (w':World) (h:w'.heap[gb]?=some (.cells #[.pointer (some ⟨x.bk,0,none⟩)] 24 (0,0))/\w'.heap[gr]?=some (.cells (recC r A1 c1 A2 c2) 86 (0,0))/\w'.heap[x.bk]?=some (.cells (bookC x b) 30 (0,0)))=>show w'.cell? ⟨gb,0,none⟩=some (.pointer (some ⟨x.bk,0,none⟩))/\w'.cell? ⟨x.bk,2,none⟩=some (.pointer (some ⟨x.a.pb,0,none⟩))/\w'.cell? ⟨x.bk,5,none⟩=some (.int .i64 b.last)/\RecAt w' gr r A1 c1 A2 c2 from ⟨zcjX h.1 rfl,zcjX h.2.2 rfl,zcjX h.2.2 rfl,z89M h.2.1⟩)
 unfold zuFW at HCH
 dsimp only at HCH
 obtain ⟨V,hV⟩:∃ V,V=zpi7 P L D r.blk r.off r.new b.last:=⟨_,rfl⟩
 rw [<- hV] at HCH ⊢
 unfold ptrV at HCH
 obtain ⟨P1,L1,D1,c⟩:=V
 dsimp only at HCH ⊢
 obtain ⟨n1,hn1⟩:∃ n1,n1=r.old.length:=⟨_,rfl⟩
 obtain ⟨n2,hn2⟩:∃ n2,n2=r.new.length:=⟨_,rfl⟩
 clear h hg hn hr2 hmK hgb hgr hV hD hp hd hn1 hn2
 go_enter Tryz.func94,Tryz.ntmps94
 go_wp2_with fail
 refine znCh 11 (fun w'=>w'.heap[gb]?=some (.cells #[.pointer (some ⟨x.bk,0,none⟩)] 24 (0,0))/\w'.heap[gr]?=some (.cells (recC r A1 c1 A2 c2) 86 (0,0))/\w'.heap[x.bk]?=some (.cells (bookC x b) 30 (0,0))) (by kernel_rfl) HS0.out (fun hH=>?_)
 simp only [List.length_cons,List.length_nil,List.replicate]
 refine tK 0 ?_ (fun w' hw'=>?_) hH ?_
 rotate_left
 ·obtain ⟨d0,d1,d2,-⟩:=HC.out w' hw'
  go_simp<;>with_reducible rfl
 simp only [Act.put,oZa,oZb,oZc]
 refine tK 1 ?_ (fun w' hw'=>?_) hH ?_
 rotate_left
 ·obtain ⟨d0,d1,d2,-⟩:=HC.out w' hw'
  go_simp<;>with_reducible rfl
 simp only [Act.put,oZa,oZb,oZc]
 refine tK 2 ?_ (fun w' hw'=>?_) hH ?_
 rotate_left
 ·obtain ⟨d0,d1,d2,-⟩:=HC.out w' hw'
  go_simp<;>with_reducible rfl
 simp only [Act.put,oZa,oZb,oZc]
 refine tK 3 ?_ (fun w' hw'=>?_) hH ?_
 rotate_left
 ·obtain ⟨d0,d1,d2,-⟩:=HC.out w' hw'
  go_simp<;>with_reducible rfl
 simp only [Act.put,oZa,oZb,oZc]
 refine tK 4 ?_ (fun w' hw'=>?_) hH ?_
 rotate_left
 ·obtain ⟨d0,d1,d2,-⟩:=HC.out w' hw'
  go_simp<;>with_reducible rfl
 simp only [Act.put,oZa,oZb,oZc]
 refine tK 5 ?_ (fun w' hw'=>?_) hH ?_
 rotate_left
 ·obtain ⟨d0,d1,d2,r0,r1,r2,r3,r4,r5,r6,r7,r8,r9⟩:=HC.out w' hw'
  go_simp<;>with_reducible rfl
 simp only [Act.put,oZa,oZb,oZc]
 refine tK 6 ?_ (fun w' hw'=>?_) hH ?_
 rotate_left
 ·obtain ⟨d0,d1,d2,-⟩:=HC.out w' hw'
  go_simp<;>with_reducible rfl
 simp only [Act.put,oZa,oZb,oZc]
 refine tK 7 ?_ (fun w' hw'=>?_) hH ?_
 rotate_left
 ·obtain ⟨d0,d1,d2,-⟩:=HC.out w' hw'
  go_simp<;>with_reducible rfl
 simp only [Act.put,oZa,oZb,oZc]
 refine tK 8 ?_ (fun w' hw'=>?_) hH ?_
 rotate_left
 ·obtain ⟨d0,d1,d2,-⟩:=HC.out w' hw'
  go_simp<;>with_reducible rfl
 simp only [Act.put,oZa,oZb,oZc]
 refine tK 9 ?_ (fun w' hw'=>?_) hH ?_
 rotate_left
 ·obtain ⟨d0,d1,d2,-⟩:=HC.out w' hw'
  go_simp<;>with_reducible rfl
 simp only [Act.put,oZa,oZb,oZc]
 refine stepL 10 rfl (by kernel_rfl) (fun K hK=>?_)
 go_simp
 refine HCH.out.mono ?_
 rintro e wd ⟨rfl,a1,f1,s1,k1,g1⟩
 have hbp:=(H.out.keep0 ((Kept.refl (fun _=>False) w).drew)).pool ⟨f1,k1,g1⟩ s1
 have HBS:=qh hbp.1
 have HBT:=qh ((BTo.refl w x).keep0 ((Kept.refl (fun _=>False) w).drew) |>.trans hbp.2)
 have HDD:=qh (show wd.heap[gb]?=some (.cells #[.pointer (some ⟨x.bk,0,none⟩)] 24 (0,0))/\wd.heap[gr]?=some (.cells (recC r A1 c1 A2 c2) 86 (0,0))/\wd.heap[x.bk]?=some (.cells (bookC x b) 30 (0,0)) from
  ⟨k1.heap HS0.out.1 (fun hK=>H.out.notT (y:=gb) ⟨_,_,HS0.out.1⟩ (by decide) (by decide) (by decide) (by decide) (by decide) (by decide) (by decide) (by decide) (.inl hK)),k1.heap HS0.out.2.1 (fun hK=>H.out.notT (y:=gr) ⟨_,_,HS0.out.2.1⟩ (by decide) (by decide) (by decide) (by decide) (by decide) (by decide) (by decide) (by decide) (.inl hK)),k1.heap HS0.out.2.2 H.out.nbk⟩)
 clear f1 s1 k1 g1 hbp HCH
 go_simp
 refine hK.out _ _ (fun _=>HDD.out) (fun _=>?_)
 simp only [oZa,oZb,oZc]
 clear hK K hH
 refine stepL 11 rfl (by kernel_rfl) (fun K hK=>?_)
 go_simp
 refine hK.out _ _ (fun h=>absurd rfl h) (fun _=>?_)
 simp only [oZa,oZb,oZc]
 clear hK K
 refine doneL (by kernel_rfl) ?_ _
 go_wp2
 go_ret
 exact ⟨rfl,_,HBT.out,HBS.out⟩
end
section
variable {w w' w1:World} {x x':BAdr} {b b':BkM} {P P':PoolM} {L L':LogM} {D D':DevM}
theorem BTo.after {x1:BAdr} (h:BTo w x w1 x1) (k:Kept (fun _=>False) w' w):BTo w' x w1 x1:=⟨h.fix,(k.mono (fun _ _ h=>False.elim h)).trans' h.k,fun z hz=>by
 rcases h.g z hz with h1 | h1
 ·exact .inl h1
 ·have:=k.size;exact .inr (by omega)⟩
theorem zAEq (b:BkM) (L:LogM) (r:RecM):(b.app L r).1.tx=b.tx/\(b.app L r).1.inT=b.inT/\(b.app L r).1.done=b.done/\(b.app L r).1.owed=b.owed/\(b.app L r).1.count=b.count:=by
 unfold BkM.app
 dsimp only
 split<;>exact ⟨rfl,rfl,rfl,rfl,rfl⟩
set_option maxRecDepth 100000 in
set_option maxHeartbeats 1600000 in
theorem zDiA (h:BookS w x b P L D) (hg:LogG L) (r:RecM) (hg1:(b.app L r).2.2=0->LogG (b.app L r).2.1) (hn:PoolN P) (hd:D.down=false) (hD:P.first+P.blocks<=D.n) (hp:LenP P) (A1:Option Addr) (c1:Nat) (A2:Option Addr) (c2:Nat) (ho:RecOk r) (i1:isI b.tx) (i2:isI b.last) (h1:r.old.length<=1000000) (h2:r.new.length<=1000000) (hr1:RdB w A1 r.old) (hr2:RdB w A2 r.new) (hne:r.new≠[])
  (hmK:∀ b o,A2=some ⟨b,o,none⟩->b < w.heap.size->¬ x.K b) :
  Calls Tryz.prog 49 #[ptrV x.bk,.agg (recC r A1 c1 A2 c2)] w fun e w'=>e=.returned (.int .i64 (b.chg P L D r).2.2.2.2)/\∃ x',BTo w x w' x'/\BookS w' x' (b.chg P L D r).1 (b.chg P L D r).2.1 (b.chg P L D r).2.2.1 (b.chg P L D r).2.2.2.1:=by
 obtain ⟨V,hV⟩:∃ V,V=b.chg P L D r:=⟨_,rfl⟩
 rw [<- hV]
 have HV:=qh hV
 clear hV
 have H:=qh h
 have HMK:=qh hmK
 have HARG:=qh (⟨hg,hn,hd,hD,hp,ho⟩:LogG L/\PoolN P/\D.down=false/\P.first+P.blocks<=D.n/\LenP P/\RecOk r)
 have HG1:=qh hg1
 have HIS:=qh (⟨i1,i2⟩:isI b.tx/\isI b.last)
 have HLE:=qh (⟨h1,h2⟩:r.old.length<=1000000/\r.new.length<=1000000)
 have HR1:=qh hr1
 have HR2:=qh hr2
 have hmf:∀ (fn:Fn) (first cap:Array Value) (w:World),(Instr.makeFunc fn first cap).run Tryz.prog w=.ok (.func fn first cap) w:=fun _ _ _ _=>rfl
 clear h hg hg1 hn hd hD hp ho i1 i2 h1 h2 hr1 hr2 hmK
 have HNE:=qh hne
 clear hne
 unfold ptrV
 go_enter Tryz.func49,Tryz.ntmps49
 go_wp2_with (refine znBH rfl 24 _ rfl (.pointer (some ⟨x.bk,0,none⟩)) rfl ?_)
 intro gb wa l1 m1 hb1 hk1
 have HB:=qh (show wa.heap[gb]?=some (.cells #[ptrV x.bk] 24 (0,0)) from hb1)
 have HK1:=qh hk1
 clear hb1 hk1
 go_wp2_with (refine znBH rfl 86 _ rfl (.agg (recC r A1 c1 A2 c2)) rfl ?_)
 intro gr wb l2 m2 hb2 hk2
 have HR:=qh (show wb.heap[gr]?=some (.cells (recC r A1 c1 A2 c2) 86 (0,0)) from hb2)
 have HB2:=qh (hk2.heap HB.out id)
 have HK2:=qh (HK1.out.trans0 hk2)
 clear hb2 hk2 HB HK1
 obtain ⟨F,hF⟩:∃ F:Array Value,F=#[FnV.v ⟨93,#[],#[.pointer (some ⟨gb,0,none⟩),.pointer (some ⟨gr,0,none⟩)]⟩,FnV.v ⟨94,#[],#[.pointer (some ⟨gb,0,none⟩),.pointer (some ⟨gr,0,none⟩)]⟩]:=⟨_,rfl⟩
 obtain ⟨wc,hwc⟩:∃ wc,wc=wb.alloc (.cells F 41):=⟨_,rfl⟩
 have hk4:Kept (fun _=>False) wb wc:=by rw [hwc];exact (Kept.refl _ wb).alloc _
 have hf4:wc.heap[wb.heap.size]?=some (.cells F 41 (0,0)):=by rw [hwc];exact heap_alloc_new wb _
 obtain ⟨gf,hgf⟩:∃ gf,gf=wb.heap.size:=⟨_,rfl⟩
 rw [<- hgf] at hf4
 have HB4:=qh (hk4.heap HB2.out id)
 have HR4:=qh (hk4.heap HR.out id)
 have HK4:=qh (HK2.out.trans0 hk4)
 have HS4:=qh (H.out.keep0 HK4.out)
 have HEA:=qh (show Calls Tryz.prog 44 #[.slice (some ⟨gf,0,none⟩) 2 2] wc fun e w'=>∃ n,e=.returned (.int .i64 n)/\n=V.2.2.2.2/\∃ x',BTo wc x w' x'/\BookS w' x' V.1 V.2.1 V.2.2.1 V.2.2.2.1 from by
  rw [HV.out]
  obtain ⟨hg,hn,hd,hD,hp,ho⟩:=HARG.out
  have hr1:=HR1.out.kept HK4.out (fun _ _ _ _=>id)
  have hr2:=HR2.out.kept HK4.out (fun _ _ _ _=>id)
  have hmK:∀ b o,A2=some ⟨b,o,none⟩->b < wc.heap.size->¬ x.K b:=fun b o e hlt hK=>HMK.out b o e (H.out.lt hK) hK
  have far:∀ (y:Nat) (cs:Array Value) (t:TypeId),wc.heap[y]?=some (.cells cs t (0,0))->(t=24\/t=86\/t=41)->¬ x.K y:=fun y cs t hy ht=>by
   rcases ht with rfl | rfl | rfl<;>exact HS4.out.notT ⟨_,_,hy⟩ (by decide) (by decide) (by decide) (by decide) (by decide) (by decide) (by decide) (by decide)
  refine each2 wc gf _ _ _ (by rw [<- hF];exact hf4) ⟨fun wz=>by kernel_rfl,(z72U HS4.out hg r A1 c1 A2 c2 ho HIS.out.1 HIS.out.2 HLE.out.1 HLE.out.2 hr1 hr2 gb gr HB4.out HR4.out).mono ?_⟩
  rintro e w5 ⟨rfl,x1,ht1,hs1⟩
  have hf5:w5.heap[gf]?=some (.cells F 41 (0,0)):=ht1.k.heap hf4 (far _ _ _ hf4 (.inr (.inr rfl)))
  refine ⟨_,rfl,by rw [<- hF];exact hf5,fun hne=>?_,fun h0=>⟨fun wz=>by kernel_rfl,?_⟩⟩
  ·unfold BkM.chg
   rw [if_pos hne]
   exact ⟨rfl,x1,ht1,hs1⟩
  ·have hb5:w5.heap[gb]?=some (.cells #[ptrV x1.bk] 24 (0,0)):=by rw [ht1.fix.bk];exact ht1.k.heap HB4.out (far _ _ _ HB4.out (.inl rfl))
   have hr5:=ht1.k.heap HR4.out (far _ _ _ HR4.out (.inr (.inl rfl)))
   have hrd5:=hr2.kept ht1.k hmK
   refine (zJ4d hs1 (HG1.out h0) hn hd hD hp r A1 c1 A2 c2 hrd5 (fun b o e hlt hK=>?_) gb gr hb5 hr5).mono ?_
   ·rcases ht1.g b hK with h1 | h1
    ·exact hmK b o e (HS4.out.lt h1) h1
    ·obtain ⟨b2,o2,e2,hc2⟩:=hr2.cell (List.length_pos_iff.2 HNE.out)
     cases e.symm.trans e2
     have:b < wc.heap.size:=block_lt_of_cell hc2
     omega
   ·rintro e w6 ⟨rfl,x2,ht2,hs2⟩
    have hchg:b.chg P L D r=((b.app L r).1,zpi7 P (b.app L r).2.1 D r.blk r.off r.new (b.app L r).1.last):=by unfold BkM.chg;rw [if_neg (fun h=>h h0)]
    have hf6:w6.heap[gf]?=some (.cells F 41 (0,0)):=ht2.k.heap hf5 (hs1.notT ⟨_,_,hf5⟩ (by decide) (by decide) (by decide) (by decide) (by decide) (by decide) (by decide) (by decide))
    rw [hchg]
    have hfin:∃ x',BTo wc x w6 x'/\BookS w6 x' (b.app L r).1 (zpi7 P (b.app L r).2.1 D r.blk r.off r.new (b.app L r).1.last).1 (zpi7 P (b.app L r).2.1 D r.blk r.off r.new (b.app L r).1.last).2.1 (zpi7 P (b.app L r).2.1 D r.blk r.off r.new (b.app L r).1.last).2.2.1:=⟨x2,ht1.trans ht2,hs2⟩
    exact ⟨_,rfl,by rw [<- hF];exact hf6,fun _=>⟨rfl,hfin⟩,fun h0=>⟨h0.symm,hfin⟩⟩)
 have HW4:=qh (show wb.alloc (.cells #[Value.func (.func 93) #[] #[.pointer (some ⟨gb,0,none⟩),.pointer (some ⟨gr,0,none⟩)],.func (.func 94) #[] #[.pointer (some ⟨gb,0,none⟩),.pointer (some ⟨gr,0,none⟩)]] 41)=wc from by rw [hwc,hF];rfl)
 have HGF:=qh hgf
 clear hF hwc hk4 hf4 hgf
 go_wp2_with fail
 rw [HW4.out,<- HGF.out]
 refine HEA.out.mono ?_
 rintro e w5 ⟨n,rfl,rfl,x1,ht1,hs1⟩
 have HT:=qh (ht1.after HK4.out)
 have HS:=qh hs1
 clear ht1 hs1 HEA
 go_wp2
 go_ret
 exact ⟨rfl,x1,HT.out,HS.out⟩
end
structure BkG (P:PoolM) (L:LogM) (D:DevM):Prop where
 g:LogG L
 n:PoolN P
 up:D.down=false
 fit:P.first+P.blocks<=D.n
 lp:LenP P
section
variable {w w' w1:World} {x x':BAdr} {b b':BkM} {P P':PoolM} {L L':LogM} {D D':DevM}
theorem z4at (h:BookS w x b P L D):Calls Tryz.prog 40 #[ptrV x.bk] w fun e w'=>e=.returned (.bool true)/\w=w':=by
 obtain ⟨c0,-⟩:=h.cells
 unfold ptrV
 clear h
 go_enter Tryz.func40,Tryz.ntmps40
 go_wp2
 go_ret
 exact ⟨rfl,rfl⟩
theorem zPnn (h:BookS w x b P L D):Calls Tryz.prog 29 #[ptrV x.bk] w fun e w'=>e=.returned (.int .i64 P.blocks)/\w=w':=by
 have HT:=qh (z4at h)
 have HP:=qh (z0Q4 h.s)
 obtain ⟨-,-,c2,-⟩:=h.cells
 unfold ptrV at HT HP ⊢
 clear h
 go_enter Tryz.func29,Tryz.ntmps29
 go_wp2_with fail
 refine HT.out.mono ?_
 rintro e wx ⟨rfl,rfl⟩
 go_wp2_with fail
 refine HP.out.mono ?_
 rintro e wx ⟨rfl,rfl⟩
 go_wp2
 go_ret
 exact ⟨rfl,rfl⟩
theorem znSa (h:BookS w x b P L D):Calls Tryz.prog 65 #[ptrV x.bk] w fun e w'=>e=.returned (.bool b.inT)/\w=w':=by
 have HT:=qh (z4at h)
 obtain ⟨-,-,-,c3,-⟩:=h.cells
 obtain ⟨t,ht⟩:∃ t,t=b.inT:=⟨_,rfl⟩
 rw [<- ht] at c3 ⊢
 unfold ptrV at HT ⊢
 clear h ht
 go_enter Tryz.func65,Tryz.ntmps65
 go_wp2_with fail
 refine HT.out.mono ?_
 rintro e wx ⟨rfl,rfl⟩
 go_wp2
 go_ret
 exact ⟨rfl,rfl⟩
def z8qS (w:World) (x:BAdr) (b:BkM) (P:PoolM) (L:LogM) (D:DevM) (page:Int) (e:Ending) (w':World):Prop:=
 let X:=ziLQ P L D page
 (X.2.2.2.2≠0->e=.returned (.tuple #[.slice none 0 0,.int .i64 X.2.2.2.2])/\∃ x',BTo w x w' x'/\BookS w' x' b X.1 X.2.1 X.2.2.1) /\
 (X.2.2.2.2=0->∃ x' f g c,BTo w x w' x'/\BookS w' x' b X.1 X.2.1 X.2.2.1/\X.1.ring[X.2.2.2.1]?=some f/\f.b.length=512/\e=.returned (.tuple #[.slice (some ⟨g,0,none⟩) 512 c,.int .i64 0])/\OwnB w' w.heap.size g c f.b/\¬ x'.K g)
theorem z5Co (h:BookS w x b P L D) (hg:BkG P L D) (page:Int):Calls Tryz.prog 50 #[ptrV x.a.pb,.int .i64 page] w (z8qS w x b P L D page):=by
 have hfb:∀ f,(ziLQ P L D page).1.ring[(ziLQ P L D page).2.2.2.1]?=some f->f.b.length=512:=fun f hf=>zxTr hg.lp h.s.log.dev.lenD page hf
 refine (zZpk h.s hg.g hg.n hg.up hg.fit page (fun f hf _=>hfb f hf)).mono ?_
 intro e w' hh
 unfold z4w2 at hh
 unfold z8qS
 dsimp only at hh ⊢
 generalize ziLQ P L D page=X at hh hfb
 refine ⟨fun hne=>?_,fun h0=>?_⟩
 ·obtain ⟨he,a1,f1,s1,k1,g1⟩:=hh.1 hne
  have:=h.pool ⟨f1,k1,g1⟩ s1
  exact ⟨he,_,this.2,this.1⟩
 ·obtain ⟨a1,f,A,c,t1,s1,q1,he,o1,n1⟩:=hh.2 h0
  have hl:=hfb f q1
  have hp:=h.pool t1 s1
  rcases o1.form with ⟨z1,z2⟩ | ⟨g,cap,z1,z2⟩
  ·rw [z2] at hl;simp at hl
  ·rw [hl] at z1
   injection z1 with z1 _ z3
   subst z1
   subst z3
   refine ⟨_,f,g,c,hp.2,hp.1,q1,hl,he,z2,fun hK=>?_⟩
   have hgb:=z2.base_le
   rcases hK with hK | hK | hK
   ·exact n1 g rfl hK
   ·have:=zvKu h.hb
    have e2:g=x.bk:=hK
    omega
   ·have:=(h.row.base_le hK).2;omega
theorem znuN (h:BookS w x b P L D) (hg:BkG P L D) (page:Int):Calls Tryz.prog 23 #[ptrV x.bk,.int .i64 page] w (z8qS w x b P L D page):=by
 have HT:=qh (z4at h)
 have HR:=qh (z5Co h hg page)
 obtain ⟨-,-,c2,-⟩:=h.cells
 obtain ⟨POST,hPOST⟩:∃ POST,POST=z8qS w x b P L D page:=⟨_,rfl⟩
 rw [<- hPOST] at HR ⊢
 have HF:=qh (show ∀ e w',POST e w'->∃ v n,e=.returned (.tuple #[v,.int .i64 n]) from fun e w' hp=>by
  rw [hPOST] at hp
  unfold z8qS at hp
  dsimp only at hp
  by_cases h0:(ziLQ P L D page).2.2.2.2=0
  ·obtain ⟨_,_,_,_,_,_,_,_,he,_⟩:=hp.2 h0
   exact ⟨_,_,he⟩
  ·exact ⟨_,_,(hp.1 h0).1⟩)
 unfold ptrV at HT HR ⊢
 clear h hPOST hg
 go_enter Tryz.func23,Tryz.ntmps23
 go_wp2_with fail
 refine HT.out.mono ?_
 rintro e wx ⟨rfl,rfl⟩
 go_wp2_with fail
 refine HR.out.mono ?_
 intro e w1 hp
 obtain ⟨v,n,rfl⟩:=HF.out e w1 hp
 have HP:=qh hp
 clear hp
 go_wp2
 exact HP.out
end
def spR (page:Int) (a d:Bytes) (s:Nat×Nat):RecM:=⟨0,0,1,0,0,0,page,s.1,segB a s,segB d s⟩
def recsM (page:Int) (a d:Bytes):List RecM:=(diffM a d).map (spR page a d)
def BkM.did (b:BkM) (r:RecM):BkM:={ b with done:=b.done ++ [b.last],owed:=b.owed+(51+(r.new.length:Int)) }
def zkcY:List RecM->BkM->PoolM->LogM->DevM->BkM×PoolM×LogM×DevM×Int
 | [],b,P,L,D=>(b,P,L,D,0)
 | r :: rs,b,P,L,D=>if (b.chg P L D r).2.2.2.2≠0 then b.chg P L D r else zkcY rs ((b.chg P L D r).1.did r) (b.chg P L D r).2.1 (b.chg P L D r).2.2.1 (b.chg P L D r).2.2.2.1
def costM:List RecM->Int
 | []=>0
 | r :: rs=>(43+2*(r.new.length:Int))+costM rs
def owesM:List RecM->Int
 | []=>0
 | r :: rs=>(51+(r.new.length:Int))+owesM rs
theorem zeih (rs:List RecM) (r:RecM):costM (rs ++ [r])=costM rs+(43+2*(r.new.length:Int)):=by
 induction rs with
 | nil=>simp [costM]
 | cons a l ih=>simp only [List.cons_append,costM,ih];omega
theorem z9Z8 (rs:List RecM) (r:RecM):owesM (rs ++ [r])=owesM rs+(51+(r.new.length:Int)):=by
 induction rs with
 | nil=>simp [owesM]
 | cons a l ih=>simp only [List.cons_append,owesM,ih];omega
def zBuV (X:PoolM×LogM×DevM×Nat×Int):Bytes:=match X.1.ring[X.2.2.2.1]? with | some f=>f.b | none=>[]
def putM (b:BkM) (P:PoolM) (L:LogM) (D:DevM) (page:Int) (data:Bytes):BkM×PoolM×LogM×DevM×Int:=
 if b.inT=false then (b,P,L,D,7) else
 if page < 0\/P.blocks<=page then (b,P,L,D,6) else
 if data.length≠512 then (b,P,L,D,2) else
 if (ziLQ P L D page).2.2.2.2≠0 then (b,(ziLQ P L D page).1,(ziLQ P L D page).2.1,(ziLQ P L D page).2.2.1,(ziLQ P L D page).2.2.2.2) else
 if (ziLQ P L D page).2.1.room < costM (recsM page (zBuV (ziLQ P L D page)) data)+(b.owed+owesM (recsM page (zBuV (ziLQ P L D page)) data)) then (b,(ziLQ P L D page).1,(ziLQ P L D page).2.1,(ziLQ P L D page).2.2.1,5) else
 zkcY (recsM page (zBuV (ziLQ P L D page)) data) b (ziLQ P L D page).1 (ziLQ P L D page).2.1 (ziLQ P L D page).2.2.1
section
variable {w w' w1:World} {x x':BAdr} {b b':BkM} {P P':PoolM} {L L':LogM} {D D':DevM}
theorem zClk (p o:Int) (A:Option Addr) (n c:Nat) (B:Option Addr) (m d:Nat) (hm:m<=1000000) (w:World) :
  Calls Tryz.prog 53 #[.agg (spnC p o A n c B m d)] w fun e w'=>e=.returned (.int .i64 (51+(m:Int)))/\Kept (fun _=>False) w w':=by
 go_enter Tryz.func53,Tryz.ntmps53
 go_wp2_with (refine znBH rfl 84 _ rfl (.agg (spnC p o A n c B m d)) rfl ?_)
 intro g w1 l1 l2 hb1 hk1
 have HK:=qh hk1
 have c3:w1.cell? ⟨g,3,none⟩=some (.slice B m d):=zcjX hb1 rfl
 have e1:wrap64 (51+(m:Int))=51+(m:Int):=by unfold wrap64;omega
 clear hb1 hk1
 go_wp2
 go_ret
 exact ⟨rfl,HK.out⟩
theorem bRcS (p o:Int) (A:Option Addr) (n c:Nat) (B:Option Addr) (m d:Nat) (wz:World):(Instr.build 86 #[(2,.int .u8 1),(6,.agg #[.int .i64 p,.int .i64 o,.slice A n c,.slice B m d])]).run Tryz.prog wz =
  .ok (.agg #[.int .i64 0,.int .i64 0,.int .u8 1,.int .i64 0,.int .i64 0,.int .i64 0,.int .i64 p,.int .i64 o,.slice A n c,.slice B m d]) wz:=run_build wz _ _ _ (by kernel_rfl)
end
def SpAt (w:World) (B N:Nat) (G:Option Addr) (L:List SpD) (a d:Bytes):Prop:=∀ k s,L[k]?=some s->(s.f < s.t/\s.t<=512)/\∃ g,G=some ⟨g,0,none⟩/\(B<=g/\g < N)/\(B<=s.g1/\s.g1 < N)/\(B<=s.g2/\s.g2 < N)/\(∀ j u,(zfF3 s)[j]?=some u->w.cell? ⟨g,k*4+j,none⟩=some u) /\
 RdB w (some ⟨s.g1,0,none⟩) (segB a (s.f,s.t))/\RdB w (some ⟨s.g2,0,none⟩) (segB d (s.f,s.t))
theorem SpAt.keep {S:Nat->Prop} {w w':World} {B N:Nat} {G:Option Addr} {L:List SpD} {a d:Bytes} (h:SpAt w B N G L a d) (hk:Kept S w w') (hN:N<=w.heap.size) (hS:∀ z,B<=z->z < N->¬ S z):SpAt w' B N G L a d:=by
 intro k s hs
 obtain ⟨h1,g,h2,h3,h4,h5,h6,h7,h8⟩:=h k s hs
 refine ⟨h1,g,h2,h3,h4,h5,fun j u hu=>?_,h7.kept hk (fun b o e _=>?_),h8.kept hk (fun b o e _=>?_)⟩
 ·exact (World.cell?_of_block (hk.block g (by omega) (hS g h3.1 h3.2))).trans (h6 j u hu)
 ·cases e;exact hS _ h4.1 h4.2
 ·cases e;exact hS _ h5.1 h5.2
theorem zNeL:∀ (L:List SpD) (k j:Nat) (s:SpD),L[k]?=some s->j < 4->(rowSp L)[k*4+j]?=(zfF3 s)[j]?
 | [],k,j,s,h,_=>by simp at h
 | t :: L,0,j,s,h,hj=>by
  have e:t=s:=by simpa using h
  subst e
  show ((zfF3 t) ++ rowSp L)[0*4+j]?=_
  rw [Nat.zero_mul,Nat.zero_add,List.getElem?_append_left (by simp [zfF3];omega)]
 | t :: L,k+1,j,s,h,hj=>by
  show ((zfF3 t) ++ rowSp L)[(k+1)*4+j]?=_
  rw [List.getElem?_append_right (by simp [zfF3];omega)]
  have e:(k+1)*4+j - (zfF3 t).length=k*4+j:=by simp [zfF3];omega
  rw [e]
  exact zNeL L k j s (by simpa using h) hj
theorem SpAt.of {w:World} {B:Nat} {v:Value} {L:List SpD} {a d:Bytes} (h:OwnSp w B v L) (hs:zRLN w B a d L) (hd:L.map (fun s=>(s.f,s.t))=diffM a d):∃ G c,v=.slice G L.length c/\SpAt w B w.heap.size G L a d:=by
 have hok:∀ s∈L,s.f < s.t/\s.t<=512:=fun s hsL=>by
  have hm:(s.f,s.t)∈diffM a d:=by rw [<- hd];exact List.mem_map_of_mem (f:=fun s=>(s.f,s.t)) hsL
  have:=(z6BQ a d).ok _ hm
  exact ⟨this.1,this.2.1⟩
 have lt:∀ (g c:Nat) (l:Bytes),OwnB w B g c l->B<=g/\g < w.heap.size:=fun g c l ho=>by
  obtain ⟨cur,h1,h2,_⟩:=ho.form
  exact ⟨h1,zvKu h2⟩
 obtain ⟨h1,⟨h2,h3⟩ | ⟨g,cap,cur,hv,hg,hh,hle,-,hc,ht⟩⟩:=h
 ·refine ⟨none,0,by rw [h2,h3],fun k s hk=>?_⟩
  have:=(List.getElem?_eq_some_iff.1 hk).1
  omega
 ·refine ⟨_,_,hv,fun k s hk=>?_⟩
  have hsL:=List.mem_of_getElem? hk
  obtain ⟨o1,o2⟩:=hs s hsL
  refine ⟨hok s hsL,g,rfl,⟨hg,zvKu hh⟩,lt _ _ _ o1,lt _ _ _ o2,fun j u hu=>zcjX hh ?_,o1.v.rd,o2.v.rd⟩
  have hj:j < 4:=by
   have:=(List.getElem?_eq_some_iff.1 hu).1
   simpa [zfF3] using this
  have hkl:=(List.getElem?_eq_some_iff.1 hk).1
  have e:=zNeL L k j s hk hj
  rw [hu,<- ht,List.getElem?_take,if_pos (by omega)] at e
  simpa using e
structure PutJ (rs:List RecM) (J:Nat->BkM->PoolM->LogM->DevM->Prop):Prop where
 good:∀ k b P L D r,J k b P L D->rs[k]?=some r->BkG P L D/\(isI b.tx/\isI b.last)/\b.done.length<=1000000/\(0<=b.owed/\b.owed<=1000000000)/\((b.app L r).2.2=0->LogG (b.app L r).2.1)
 next:∀ k b P L D r,J k b P L D->rs[k]?=some r->(b.chg P L D r).2.2.2.2=0->J (k+1) ((b.chg P L D r).1.did r) (b.chg P L D r).2.1 (b.chg P L D r).2.2.1 (b.chg P L D r).2.2.2.1
theorem zE5m {rs:List RecM} {k:Nat} {r:RecM} (h:rs[k]?=some r) (b:BkM) (P:PoolM) (L:LogM) (D:DevM):zkcY (rs.drop k) b P L D=if (b.chg P L D r).2.2.2.2≠0 then b.chg P L D r else zkcY (rs.drop (k+1)) ((b.chg P L D r).1.did r) (b.chg P L D r).2.1 (b.chg P L D r).2.2.1 (b.chg P L D r).2.2.2.1:=by
 obtain ⟨hk,he⟩:=List.getElem?_eq_some_iff.1 h
 rw [List.drop_eq_getElem_cons hk,he]
 rfl
theorem zeOg {rs:List RecM} {k:Nat} {r:RecM} (h:rs[k]?=some r):costM (rs.take (k+1))=costM (rs.take k)+(43+2*(r.new.length:Int))/\owesM (rs.take (k+1))=owesM (rs.take k)+(51+(r.new.length:Int)):=by
 obtain ⟨hk,he⟩:=List.getElem?_eq_some_iff.1 h
 rw [List.take_succ_eq_append_getElem hk,he,zeih,z9Z8]
 exact ⟨rfl,rfl⟩
theorem zEGV:∀ (rs:List RecM),(∀ r∈rs,r.new.length<=512)->0<=costM rs/\costM rs<=1067*(rs.length:Int)/\0<=owesM rs/\owesM rs<=563*(rs.length:Int)
 | [],_=>by simp [costM,owesM]
 | r :: rs,h=>by
  have ih:=zEGV rs (fun x hx=>h x (by simp [hx]))
  have:=h r (by simp)
  simp only [costM,owesM,List.length_cons]
  omega
end Go.Proofs.YtfgagakepmigbaaGreat
