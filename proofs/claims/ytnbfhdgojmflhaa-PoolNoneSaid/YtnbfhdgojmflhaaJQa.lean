/-
  No statement is proved here.
-/
import Derived.Test.YtnbfhdgojmflhaaJQs
import Derived.Test.YtnbfhdgojmflhaaJLgl
import Derived.Deep.QuietTactic
import Derived.BigQuiet
namespace Go.Proofs.Ytnbfhdgojmflhaa
open Go.RowKit
theorem OwnB.rdq {w:World} {base g cap:Nat} {l:Bytes} (h:OwnB w base g cap l):RdB w (some ⟨g,0,none⟩) l:=fun _=>⟨g,0,rfl,fun j u hu=>by
 have hj:=(Array.getElem?_eq_some_iff.1 hu).1
 rw [z54R] at hj
 rw [zNgY hj] at hu
 cases hu
 rw [Nat.zero_add]
 exact h.cellAt hj⟩
structure LogG (L:LogM):Prop where
 ok:LogOk L
 b:LogB L
 r:LogR L
 t1:1<=L.turn
 t2:L.turn < 2147483648
 bs:L.beg<=L.safe
 sf:L.safe<=L.fin
 tl:L.tail.length<=100000000000000
theorem LogG.ne {L:LogM} (h:LogG L) (hs:L.safe≠L.fin):L.tail≠[]:=fun e=>by
 have h1:=h.b.fe
 have h2:=h.bs
 have h3:=h.sf
 rw [e] at h1
 simp at h1
 omega
theorem LogI.g {D:DevM} {L:LogM} {R:List RecM} {B:Int->UInt8} (h:LogI D L R B):LogG L:=⟨h.ok,h.b,h.r,h.t1,h.t2,h.begs.2.1,h.sf,by
 have h1:=h.b.fe
 have h2:=h.begs
 have h3:=h.so
 have h4:=h.room
 have h5:=h.c1
 omega⟩
theorem LogG.forced {L:LogM} (h:LogG L):LogG (z5H0 L):=by
 have h1:=h.b.fe
 have h2:=h.bs
 have h3:=h.sf
 have h4:=h.ok.o0
 have h5:=h.ok.o1
 have h6:=h.ok.e1
 have h7:=h.b.b0
 have h8:=h.tl
 have hl:(L.tail.drop (L.tail.length / 51*51)).length=L.tail.length - L.tail.length / 51*51:=List.length_drop
 refine ⟨⟨h.ok.f0,h.ok.f1,h.ok.c0,h.ok.c1,h.ok.o0,h.ok.o1,h.ok.e1,by show 1<=L.fin;omega,by show L.fin<=_;omega⟩,⟨?_,?_,?_⟩,⟨h.r.ri,h.r.n1,h.r.nx,h.r.nl,h.r.ll⟩,h.t1,h.t2,?_,Int.le_refl _,?_⟩
 ·show L.fin=L.beg+(L.tail.length / 51*51:Nat)+((L.tail.drop (L.tail.length / 51*51)).length:Int)
  rw [hl];omega
 ·show 1<=L.beg+((L.tail.length / 51*51:Nat):Int);omega
 ·show L.beg+((L.tail.length / 51*51:Nat):Int)<=_;omega
 ·show L.beg+((L.tail.length / 51*51:Nat):Int)<=L.fin;omega
 ·show (L.tail.drop (L.tail.length / 51*51)).length<=_;rw [hl];omega
theorem zq6j (L:LogM) (D:DevM):(L.force D).1=L\/(L.force D).1=z5H0 L:=by
 unfold LogM.force
 dsimp only
 repeat' split
 all_goals first | exact .inl rfl | exact .inr rfl
theorem LogG.force {L:LogM} (h:LogG L) (D:DevM):LogG (L.force D).1:=by
 rcases zq6j L D with e | e
 ·rw [e];exact h
 ·rw [e];exact h.forced
theorem zUuN (pf:Int) (f:FrM) (L:LogM) (D:DevM):(wrF pf f L D).2.1=L\/(wrF pf f L D).2.1=(L.force D).1:=by
 unfold wrF
 dsimp only
 split
 ·split
  ·exact .inr rfl
  ·split<;>exact .inr rfl
 ·split
  ·exact .inl rfl
  ·split<;>exact .inl rfl
theorem LogG.wr {L:LogM} (h:LogG L) (pf:Int) (f:FrM) (D:DevM):LogG (wrF pf f L D).2.1:=by
 rcases zUuN pf f L D with e | e
 ·rw [e];exact h
 ·rw [e];exact h.force D
section
variable {w w':World} {a:Adr} {P:PoolM} {L:LogM} {D:DevM}
theorem PoolS.force (h:PoolS w a P L D) (hg:LogG L) :
  Calls Try.prog 25 #[ptrV a.q] w fun e w'=>e=.returned (.int .i64 (L.force D).2.2)/\∃ tv',PoolS w' (a.re a.lv tv') P (L.force D).1 (L.force D).2.1/\Kept a.K w w'/\∀ x,(a.re a.lv tv').K x->a.K x\/w.heap.size<=x:=by
 refine (zx6X w a.q a.p a.ms a.mo a.lv a.tv L D h.log hg.ok hg.b (by have:=hg.t1;omega) (by have:=hg.t2;omega) hg.ne).mono ?_
 rintro e w' ⟨he,tv',hs,hk,ht⟩
 refine ⟨he,tv',h.turn hk (fun x hx=>?_) hs (.inl rfl) ?_⟩
 ·rcases hx with hx | hx | hx | hx
  ·exact .inl hx
  ·exact .inr (.inl hx)
  ·exact .inr (.inr (.inl hx))
  ·exact .inr (.inr (.inr (.inl hx)))
 ·rcases ht with ht | ht
  ·exact .inl (by rw [ht])
  ·exact .inr ht
theorem PoolS.write (h:PoolS w a P L D) (p:Nat) (hp:a.p=p) (n:Int) (A:Option Addr) (c:Nat) (l:Bytes) (hl:RdB w A l) :
  Calls Try.prog 56 #[ptrV p,.int .i64 n,.slice A l.length c] w fun e w'=>e=.returned (.int .i64 (D.write n l).1)/\PoolS w' (a.re a.lv a.tv) P L (D.write n l).2/\Kept a.K w w'/\∀ x,(a.re a.lv a.tv).K x->a.K x\/w.heap.size<=x:=by
 subst hp
 refine (zquG h.log.dev n A c l hl).mono ?_
 rintro e w' ⟨he,hd,hk⟩
 exact ⟨he,h.turn hk (fun x hx=>by rcases hx with hx | hx;exact .inr (.inl hx);exact .inr (.inr (.inr (.inl hx)))) (h.log.dev2 hk (fun x hx=>by rcases hx with hx | hx;exact .inl hx;exact .inr (.inr hx)) hd) (.inl rfl) (.inl rfl)⟩
def z1vm (w:World) (a:Adr) (P:PoolM) (L:LogM) (D:DevM) (i:Nat) (x:FrD) (e:Ending) (w':World):Prop:=e=.returned (.int .i64 (wrF P.first x.m L D).2.2.2) /\
 ∃ tv',PoolS w' { a.re a.lv tv' with xs:=a.xs.set i { x with m:=(wrF P.first x.m L D).1 } } { P with ring:=P.ring.set i (wrF P.first x.m L D).1 } (wrF P.first x.m L D).2.1 (wrF P.first x.m L D).2.2.1/\Kept a.K w w' /\
  ∀ z,({ a.re a.lv tv' with xs:=a.xs.set i { x with m:=(wrF P.first x.m L D).1 } }:Adr).K z->a.K z\/w.heap.size<=z
theorem zh6D {α:Type} {l:List α} {i:Nat} {x:α} (h:l[i]?=some x):l.set i x=l:=by
 apply List.ext_getElem?
 intro j
 rw [List.getElem?_set]
 by_cases e:i=j
 ·subst e
  have:=(List.getElem?_eq_some_iff.1 h).1
  rw [if_pos rfl,if_pos this,h]
 ·rw [if_neg e]
theorem PoolS.ringAt (h:PoolS w a P L D) {i:Nat} {x:FrD} (hx:a.xs[i]?=some x):P.ring[i]?=some x.m:=by rw [h.ring,List.getElem?_map,hx];rfl
theorem PoolS.unset {L':LogM} {D':DevM} {tv':Value} {i:Nat} {x:FrD} (hx:a.xs[i]?=some x) (h:PoolS w (a.re a.lv tv') P L' D'):PoolS w { a.re a.lv tv' with xs:=a.xs.set i x } { P with ring:=P.ring.set i x.m } L' D':=by
 have e1:a.xs.set i x=a.xs:=zh6D hx
 have e2:P.ring.set i x.m=P.ring:=zh6D (h.ringAt (show (a.re a.lv tv').xs[i]?=some x from hx))
 rw [e1,e2]
 exact h
theorem z1vm.none {i:Nat} {x:FrD} (hx:a.xs[i]?=some x) {L1:LogM} {D1:DevM} {c:Int} {tv':Value} (he:wrF P.first x.m L D=(x.m,L1,D1,c)) (hs:PoolS w' (a.re a.lv tv') P L1 D1) (hk:Kept a.K w w')
  (hg:∀ z,(a.re a.lv tv').K z->a.K z\/w.heap.size<=z):z1vm w a P L D i x (.returned (.int .i64 c)) w':=by
 unfold z1vm
 rw [he]
 refine ⟨rfl,tv',hs.unset hx,hk,fun z hz=>hg z ?_⟩
 have e1:a.xs.set i { x with m:=x.m }=a.xs:=zh6D hx
 rw [e1] at hz
 exact hz
set_option maxRecDepth 100000 in
set_option maxHeartbeats 1600000 in
theorem zCf5 (h:PoolS w a P L D) (hg:LogG L) (f0:0<=P.first) (f1:P.first<=65536) {i:Nat} {x:FrD} (hx:a.xs[i]?=some x) (p0:0<=x.m.page) (p1:x.m.page<=65536) :
  Calls Try.prog 42 #[ptrV a.pb,ptrV x.k] w (z1vm w a P L D i x):=by
 have hxm:=List.mem_of_getElem? hx
 have HX:=qh hx
 have HXM:=qh hxm
 have H:=qh h
 have HG:=qh hg
 have cp1:w.cell? ⟨a.pb,1,none⟩=some (ptrV a.q):=zcjX h.hp rfl
 have cf6:w.cell? ⟨x.k,6,none⟩=some (.int .i64 x.m.last):=zcjX (h.fr x hxm).1 rfl
 have HSF:=qh (fun n=>zOWC (w.drewN n) a.q a.p a.lv a.tv L h.log.hq)
 unfold ptrV at cp1 ⊢
 obtain ⟨X,hX⟩:∃ X,X=wrF P.first x.m L D:=⟨_,rfl⟩
 have HPN:=qh (fun (c:Int) (L1:LogM) (D1:DevM) (tv':Value) (w':World) (he:X=(x.m,L1,D1,c))=>z1vm.none (w:=w) (w':=w') (tv':=tv') hx (hX.symm.trans he))
 have HPO:=qh (show ∀ e w',e=.returned (.int .i64 X.2.2.2)->(∃ tv',PoolS w' { a.re a.lv tv' with xs:=a.xs.set i { x with m:=X.1 } } { P with ring:=P.ring.set i X.1 } X.2.1 X.2.2.1/\Kept a.K w w'/\∀ z,({ a.re a.lv tv' with xs:=a.xs.set i { x with m:=X.1 } }:Adr).K z->a.K z\/w.heap.size<=z)->z1vm w a P L D i x e w' from fun e w' h1 h2=>by
  unfold z1vm;rw [<- hX];exact ⟨h1,h2⟩)
 have HXX:=qh (show X=(let y:=if L.safe<=x.m.last then L.force D else (L,D,0);if y.2.2≠0 then (x.m,y.1,y.2.1,y.2.2) else let z:=y.2.1.write (P.first+x.m.page) x.m.b;if z.1≠0 then (x.m,y.1,z.2,z.1) else ({ x.m with dirty:=false,first:=0 },y.1,z.2,0)) from hX)
 obtain ⟨POST,hPOST⟩:∃ POST,POST=z1vm w a P L D i x:=⟨_,rfl⟩
 rw [<- hPOST] at HPN HPO ⊢
 clear h hxm hx hX hPOST
 have HFO:=qh (fun n=>(H.out.keep0 ((Kept.refl (fun _=>False) w).drewN n)).force HG.out)
 obtain ⟨F,hF⟩:∃ F,F=L.force D:=⟨_,rfl⟩
 rw [<- hF] at HFO HXX
 have HFF:=qh hF
 obtain ⟨pq,hpq⟩:∃ pq,pq=a.q:=⟨_,rfl⟩
 unfold ptrV at HFO
 rw [<- hpq] at cp1 HSF HFO
 obtain ⟨FE,hFE⟩:∃ FE,FE=F.2.2:=⟨_,rfl⟩
 rw [<- hFE] at HFO
 have HFE:=qh hFE
 clear hpq hF hFE
 go_enter Try.func42,Try.ntmps42
 go_wp2_with fail
 go_quiet (first | (go_at_call 38;exact (HSF.out _).mono (fun _ _ h=>⟨h.1,_,h.2.symm⟩)))
 go_upto_if 16 with fail
 go_cut [5] from 16 to 24 (fun _ wx=>∃ L1 D1 tv1,PoolS wx (a.re a.lv tv1) P L1 D1/\Kept a.K w wx/\(∀ z,(a.re a.lv tv1).K z->a.K z\/w.heap.size<=z)/\(if L.safe<=x.m.last then F else (L,D,0))=(L1,D1,0))
 case first=>
  by_cases hs:L.safe<=x.m.last
  ·have HS:=qh hs
   go_wp2_with fail
   refine (HFO.out _).mono ?_
   rintro e w2 ⟨rfl,tv2,s2,k2,g2⟩
   have S2:=Lib.hid s2
   have K2:=qh (show Kept a.K w w2 from ((Kept.refl a.K w).drewN _).trans' k2)
   have G2:=Lib.hid g2
   clear s2 k2 g2
   by_cases he:FE=0
   ·have HE:=qh (show F=(F.1,F.2.1,0) from by rw [<- he,HFE.out])
    subst he
    go_wp2
    go_meet
    case rel=>exact ⟨F.1,F.2.1,tv2,S2.out,K2.out,G2.out,by rw [if_pos HS.out];exact HE.out⟩
   ·have heb:(FE != 0)=true:=by rw [bne_iff_ne];exact he
    have HE:=qh he
    go_wp2
    show POST (.returned (.int .i64 FE)) w2
    refine HPN.out _ F.1 F.2.1 tv2 _ ?_ S2.out K2.out G2.out
    have hne:¬ F.2.2=0:=by rw [<- HFE.out];exact HE.out
    rw [HXX.out]
    simp only [if_pos HS.out,if_pos hne,HFE.out]
  ·have HS:=qh hs
   go_wp2
   go_meet
   case rel=>exact ⟨L,D,a.tv,H.out.keep0 ((Kept.refl (fun _=>False) w).drewN _),(Kept.refl a.K w).drewN _,fun z hz=>.inl hz,by rw [if_neg (by have:=HS.out;omega)]⟩
 case rest=>
  obtain ⟨L1,D1,tv1,s1,k1,g1,hz⟩:=hcut
  obtain ⟨Y,hY⟩:∃ Y,Y=D1.write (P.first+x.m.page) x.m.b:=⟨_,rfl⟩
  have HXY:=qh (show X=(if Y.1≠0 then (x.m,L1,Y.2,Y.1) else ({ x.m with dirty:=false,first:=0 },L1,Y.2,0)) from by
   rw [HXX.out,hY];dsimp only;rw [hz];exact if_neg (fun h=>h rfl))
  obtain ⟨pp,hpp⟩:∃ pp,pp=a.p:=⟨_,rfl⟩
  have S1:=Lib.hid s1
  have K1:=Lib.hid k1
  have G1:=Lib.hid g1
  have hb1:(wc.drew).heap[a.pb]?=some (.cells (poolC a P) 57 (0,0)):=s1.hp
  have hf1:(wc.drew).heap[x.k]?=some (.cells (frC x) 94 (0,0)):=(s1.fr x HXM.out).1
  have HB1:=qh hb1
  have HF1:=qh hf1
  have HW:=qh (fun (w':World) (hk:Kept (fun _=>False) wc w')=>(s1.keep0 hk).write pp hpp.symm (P.first+x.m.page) (some ⟨x.g,0,none⟩) x.c x.m.b (OwnB.rdq ((s1.keep0 hk).fr x HXM.out).2))
  unfold ptrV at HW
  rw [<- hY] at HW
  obtain ⟨YE,hYE⟩:∃ YE,YE=Y.1:=⟨_,rfl⟩
  rw [<- hYE] at HW
  have HYE:=qh hYE
  have HPP:=qh hpp
  clear hz s1 k1 g1 hY hb1 hf1 hYE HFO HSF cp1 cf6
  have e1:wrap64 (P.first+x.m.page)=P.first+x.m.page:=by unfold wrap64;omega
  have e2:IntKind.i64.wrap (P.first+x.m.page)=P.first+x.m.page:=by rw [IntKind.wrap_i64];omega
  clear hpp
  go_wp2_with fail
  refine znCh 18 (fun w'=>w'.heap[a.pb]?=some (.cells (poolC a P) 57 (0,0))/\w'.heap[x.k]?=some (.cells (frC x) 94 (0,0))) (by kernel_rfl) ⟨HB1.out,HF1.out⟩ (fun hH=>?_)
  simp only [List.length_cons,List.length_nil,List.replicate]
  have HC:=qh (fun (w':World) (h:w'.heap[a.pb]?=some (.cells (poolC a P) 57 (0,0))/\w'.heap[x.k]?=some (.cells (frC x) 94 (0,0)))=>show w'.cell? ⟨a.pb,0,none⟩=some (.pointer (some ⟨pp,0,none⟩))/\w'.cell? ⟨a.pb,2,none⟩=some (.int .i64 P.first)/\w'.cell? ⟨x.k,0,none⟩=some (.int .i64 x.m.page)/\w'.cell? ⟨x.k,1,none⟩=some (.slice (some ⟨x.g,0,none⟩) x.m.b.length x.c) from
   ⟨by rw [HPP.out];exact zcjX h.1 rfl,zcjX h.1 rfl,zcjX h.2 rfl,zcjX h.2 rfl⟩)
  refine tK 0 ?_ (fun w' hw'=>?_) hH ?_
  rotate_left
  ·obtain ⟨c0,c2,d0,d1⟩:=HC.out w' hw'
   go_simp<;>with_reducible rfl
  simp only [Act.put,oZa,oZb,oZc]
  refine tK 1 ?_ (fun w' hw'=>?_) hH ?_
  rotate_left
  ·obtain ⟨c0,c2,d0,d1⟩:=HC.out w' hw'
   go_simp<;>with_reducible rfl
  simp only [Act.put,oZa,oZb,oZc]
  refine tK 2 ?_ (fun w' hw'=>?_) hH ?_
  rotate_left
  ·obtain ⟨c0,c2,d0,d1⟩:=HC.out w' hw'
   go_simp<;>with_reducible rfl
  simp only [Act.put,oZa,oZb,oZc]
  refine tK 3 ?_ (fun w' hw'=>?_) hH ?_
  rotate_left
  ·obtain ⟨c0,c2,d0,d1⟩:=HC.out w' hw'
   go_simp<;>with_reducible rfl
  simp only [Act.put,oZa,oZb,oZc]
  refine tK 4 ?_ (fun w' hw'=>?_) hH ?_
  rotate_left
  ·obtain ⟨c0,c2,d0,d1⟩:=HC.out w' hw'
   go_simp<;>with_reducible rfl
  simp only [Act.put,oZa,oZb,oZc]
  refine tK 5 ?_ (fun w' hw'=>?_) hH ?_
  rotate_left
  ·obtain ⟨c0,c2,d0,d1⟩:=HC.out w' hw'
   go_simp<;>with_reducible rfl
  simp only [Act.put,oZa,oZb,oZc]
  refine tK 6 ?_ (fun w' hw'=>?_) hH ?_
  rotate_left
  ·obtain ⟨c0,c2,d0,d1⟩:=HC.out w' hw'
   go_simp<;>with_reducible rfl
  simp only [Act.put,oZa,oZb,oZc]
  refine tK 7 ?_ (fun w' hw'=>?_) hH ?_
  rotate_left
  ·obtain ⟨c0,c2,d0,d1⟩:=HC.out w' hw'
   go_simp<;>with_reducible rfl
  simp only [Act.put,oZa,oZb,oZc]
  refine tK 8 ?_ (fun w' hw'=>?_) hH ?_
  rotate_left
  ·obtain ⟨c0,c2,d0,d1⟩:=HC.out w' hw'
   go_simp<;>with_reducible rfl
  simp only [Act.put,oZa,oZb,oZc]
  refine tK 9 ?_ (fun w' hw'=>?_) hH ?_
  rotate_left
  ·obtain ⟨c0,c2,d0,d1⟩:=HC.out w' hw'
   go_simp<;>with_reducible rfl
  simp only [Act.put,oZa,oZb,oZc]
  refine tK 10 ?_ (fun w' hw'=>?_) hH ?_
  rotate_left
  ·obtain ⟨c0,c2,d0,d1⟩:=HC.out w' hw'
   go_simp<;>with_reducible rfl
  simp only [Act.put,oZa,oZb,oZc]
  refine tK 11 ?_ (fun w' hw'=>?_) hH ?_
  rotate_left
  ·obtain ⟨c0,c2,d0,d1⟩:=HC.out w' hw'
   go_simp<;>with_reducible rfl
  simp only [Act.put,oZa,oZb,oZc]
  refine tK 12 ?_ (fun w' hw'=>?_) hH ?_
  rotate_left
  ·obtain ⟨c0,c2,d0,d1⟩:=HC.out w' hw'
   go_simp<;>with_reducible rfl
  simp only [Act.put,oZa,oZb,oZc]
  refine tK 13 ?_ (fun w' hw'=>?_) hH ?_
  rotate_left
  ·obtain ⟨c0,c2,d0,d1⟩:=HC.out w' hw'
   go_simp<;>with_reducible rfl
  simp only [Act.put,oZa,oZb,oZc]
  refine tK 14 ?_ (fun w' hw'=>?_) hH ?_
  rotate_left
  ·obtain ⟨c0,c2,d0,d1⟩:=HC.out w' hw'
   go_simp<;>with_reducible rfl
  simp only [Act.put,oZa,oZb,oZc]
  refine tK 15 ?_ (fun w' hw'=>?_) hH ?_
  rotate_left
  ·obtain ⟨c0,c2,d0,d1⟩:=HC.out w' hw'
   go_simp<;>with_reducible rfl
  simp only [Act.put,oZa,oZb,oZc]
  refine tK 16 ?_ (fun w' hw'=>?_) hH ?_
  rotate_left
  ·obtain ⟨c0,c2,d0,d1⟩:=HC.out w' hw'
   go_simp<;>with_reducible rfl
  simp only [Act.put,oZa,oZb,oZc]
  refine stepL 17 rfl (by kernel_rfl) (fun K hK=>?_)
  go_simp
  refine (HW.out _ ((Kept.refl (fun _=>False) wc).drew)).mono ?_
  rintro e w5 ⟨rfl,s5,k5,g5⟩
  have S5:=Lib.hid s5
  have K5:=qh (K1.out.drew.trans k5 (fun z hz h=>by
   rcases G1.out z h with h | h
   ·exact h
   ·omega))
  have G5:=qh (show ∀ z,(a.re a.lv tv1).K z->a.K z\/w.heap.size<=z from fun z hz=>by
   rcases g5 z hz with h | h
   ·exact G1.out z h
   ·exact .inr (by have h1:=K1.out.size;have h2:wc.drew.heap.size=wc.heap.size:=rfl;omega))
  clear s5 k5 g5
  go_simp
  refine hK.out _ _ (fun _=>⟨S5.out.hp,(S5.out.fr x HXM.out).1⟩) (fun _=>?_)
  simp only [oZa,oZb,oZc]
  clear hK K
  refine stepL 18 rfl (by kernel_rfl) (fun K hK=>?_)
  go_simp
  refine hK.out _ _ (fun h=>absurd rfl h) (fun _=>?_)
  simp only [oZa,oZb,oZc]
  clear hK K hH HC HW
  refine doneL (by kernel_rfl) ?_ _
  by_cases he:YE=0
  ·subst he
   have HX0:=qh (show X=({ x.m with dirty:=false,first:=0 },L1,Y.2,0) from by rw [HXY.out];exact if_neg (fun h=>h HYE.out.symm))
   go_wp2_with (refine z2q7 rfl 4 _ _ rfl x.k 4 (.bool false) (frC x) rfl rfl (S5.out.fr x HXM.out).1 (by kernel_rfl) (by show 4 < 7;decide) rfl ?_)
   intro w6 hb6 hk6
   have HB6:=qh hb6
   have HK6:=qh hk6
   clear hb6 hk6
   go_wp2_with (refine z2q7 rfl 2 _ _ rfl x.k 5 (.int .i64 0) _ rfl rfl HB6.out (by kernel_rfl) (by show 5 < 7;decide) rfl ?_)
   intro w7 hb7 hk7
   have HB7:=qh (show w7.heap[x.k]?=some (.cells (frC { x with m:={ x.m with dirty:=false,first:=0 } }) 94 (0,0)) from hb7)
   have HK7:=qh (HK6.out.trans' hk7)
   clear hb7 hk7 HK6 HB6
   go_wp2
   show POST (.returned (.int .i64 0)) w7
   have hs:=S5.out.setF (y:={ x with m:={ x.m with dirty:=false,first:=0 } }) HX.out rfl rfl rfl HB7.out ((S5.out.fr x HXM.out).2.keep HK7.out (fun e=>(S5.out.tg HXM.out).ne (S5.out.tk HXM.out) (by decide) e)) (HK7.out.mono (fun z _ h=>.inl h))
   refine HPO.out _ _ ?_ ⟨tv1,?_,?_,?_⟩
   ·rw [HX0.out]
   ·rw [HX0.out];exact hs.1
   ·exact K5.out.trans hs.2.1 (fun z hz h=>by
     rcases G5.out z h with h | h
     ·exact h
     ·omega)
   ·rw [HX0.out]
    intro z hz
    rcases hs.2.2 z hz with h | h
    ·exact G5.out z h
    ·exact .inr (by have:=K5.out.size;omega)
  ·have heb:(YE != 0)=true:=by rw [bne_iff_ne];exact he
   have HE:=qh he
   go_wp2
   show POST (.returned (.int .i64 YE)) w5
   exact HPN.out _ L1 Y.2 tv1 _ (by rw [HXY.out,HYE.out];exact if_pos (fun h=>HE.out (HYE.out.trans h))) S5.out K5.out G5.out
end
end Go.Proofs.Ytnbfhdgojmflhaa
