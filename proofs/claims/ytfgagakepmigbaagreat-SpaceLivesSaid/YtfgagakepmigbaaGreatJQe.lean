/-
  No statement is proved here.
-/
import Derived.Test.YtfgagakepmigbaaGreatJQs
import Derived.Test.YtfgagakepmigbaaGreatJLgl
import Derived.Deep.QuietTactic
import Derived.BigQuiet
namespace Go.Proofs.YtfgagakepmigbaaGreat
open Go.RowKit
theorem OwnB.rdq {w:World} {base g cap:Nat} {l:Bytes} (h:OwnB w base g cap l):RdB w (some ⟨g,0,none⟩) l:=fun _=>⟨g,0,rfl,fun j u hu=>by
 have hj:=(Array.getElem?_eq_some_iff.1 hu).1
 rw [z54R] at hj
 rw [zNgY hj] at hu
 cases hu
 rw [Nat.zero_add]
 exact h.cellAt hj⟩
structure LogG (L:LogM):Prop where
 ok:LogOk L
 b:LogB L
 r:LogR L
 t1:1<=L.turn
 t2:L.turn < 2147483648
 bs:L.beg<=L.safe
 sf:L.safe<=L.fin
 tl:L.tail.length<=100000000000000
theorem LogG.ne {L:LogM} (h:LogG L) (hs:L.safe≠L.fin):L.tail≠[]:=fun e=>by
 have h1:=h.b.fe
 have h2:=h.bs
 have h3:=h.sf
 rw [e] at h1
 simp at h1
 omega
theorem LogI.g {D:DevM} {L:LogM} {R:List RecM} {B:Int->UInt8} (h:LogI D L R B):LogG L:=⟨h.ok,h.b,h.r,h.t1,h.t2,h.begs.2.1,h.sf,by
 have h1:=h.b.fe
 have h2:=h.begs
 have h3:=h.so
 have h4:=h.room
 have h5:=h.c1
 omega⟩
theorem LogG.forced {L:LogM} (h:LogG L):LogG (z5H0 L):=by
 have h1:=h.b.fe
 have h2:=h.bs
 have h3:=h.sf
 have h4:=h.ok.o0
 have h5:=h.ok.o1
 have h6:=h.ok.e1
 have h7:=h.b.b0
 have h8:=h.tl
 have hl:(L.tail.drop (L.tail.length / 51*51)).length=L.tail.length - L.tail.length / 51*51:=List.length_drop
 refine ⟨⟨h.ok.f0,h.ok.f1,h.ok.c0,h.ok.c1,h.ok.o0,h.ok.o1,h.ok.e1,by show 1<=L.fin;omega,by show L.fin<=_;omega⟩,⟨?_,?_,?_⟩,⟨h.r.ri,h.r.n1,h.r.nx,h.r.nl,h.r.ll⟩,h.t1,h.t2,?_,Int.le_refl _,?_⟩
 ·show L.fin=L.beg+(L.tail.length / 51*51:Nat)+((L.tail.drop (L.tail.length / 51*51)).length:Int)
  rw [hl];omega
 ·show 1<=L.beg+((L.tail.length / 51*51:Nat):Int);omega
 ·show L.beg+((L.tail.length / 51*51:Nat):Int)<=_;omega
 ·show L.beg+((L.tail.length / 51*51:Nat):Int)<=L.fin;omega
 ·show (L.tail.drop (L.tail.length / 51*51)).length<=_;rw [hl];omega
theorem zq6j (L:LogM) (D:DevM):(L.force D).1=L\/(L.force D).1=z5H0 L:=by
 unfold LogM.force
 dsimp only
 repeat' split
 all_goals first | exact .inl rfl | exact .inr rfl
theorem LogG.force {L:LogM} (h:LogG L) (D:DevM):LogG (L.force D).1:=by
 rcases zq6j L D with e | e
 ·rw [e];exact h
 ·rw [e];exact h.forced
theorem zUuN (pf:Int) (f:FrM) (L:LogM) (D:DevM):(wrF pf f L D).2.1=L\/(wrF pf f L D).2.1=(L.force D).1:=by
 unfold wrF
 dsimp only
 split
 ·split
  ·exact .inr rfl
  ·split<;>exact .inr rfl
 ·split
  ·exact .inl rfl
  ·split<;>exact .inl rfl
theorem LogG.wr {L:LogM} (h:LogG L) (pf:Int) (f:FrM) (D:DevM):LogG (wrF pf f L D).2.1:=by
 rcases zUuN pf f L D with e | e
 ·rw [e];exact h
 ·rw [e];exact h.force D
section
variable {w w':World} {a:Adr} {P:PoolM} {L:LogM} {D:DevM}
theorem PoolS.force (h:PoolS w a P L D) (hg:LogG L) :
  Calls Tryz.prog 47 #[ptrV a.q] w fun e w'=>e=.returned (.int .i64 (L.force D).2.2)/\∃ tv',PoolS w' (a.re a.lv tv') P (L.force D).1 (L.force D).2.1/\Kept a.K w w'/\∀ x,(a.re a.lv tv').K x->a.K x\/w.heap.size<=x:=by
 refine (zx6X w a.q a.p a.ms a.mo a.lv a.tv L D h.log hg.ok hg.b (by have:=hg.t1;omega) (by have:=hg.t2;omega) hg.ne).mono ?_
 rintro e w' ⟨he,tv',hs,hk,ht⟩
 refine ⟨he,tv',h.turn hk (fun x hx=>?_) hs (.inl rfl) ?_⟩
 ·rcases hx with hx | hx | hx | hx
  ·exact .inl hx
  ·exact .inr (.inl hx)
  ·exact .inr (.inr (.inl hx))
  ·exact .inr (.inr (.inr (.inl hx)))
 ·rcases ht with ht | ht
  ·exact .inl (by rw [ht])
  ·exact .inr ht
theorem PoolS.write (h:PoolS w a P L D) (p:Nat) (hp:a.p=p) (n:Int) (A:Option Addr) (c:Nat) (l:Bytes) (hl:RdB w A l) :
  Calls Tryz.prog 67 #[ptrV p,.int .i64 n,.slice A l.length c] w fun e w'=>e=.returned (.int .i64 (D.write n l).1)/\PoolS w' (a.re a.lv a.tv) P L (D.write n l).2/\Kept a.K w w'/\∀ x,(a.re a.lv a.tv).K x->a.K x\/w.heap.size<=x:=by
 subst hp
 refine (zquG h.log.dev n A c l hl).mono ?_
 rintro e w' ⟨he,hd,hk⟩
 exact ⟨he,h.turn hk (fun x hx=>by rcases hx with hx | hx;exact .inr (.inl hx);exact .inr (.inr (.inr (.inl hx)))) (h.log.dev2 hk (fun x hx=>by rcases hx with hx | hx;exact .inl hx;exact .inr (.inr hx)) hd) (.inl rfl) (.inl rfl)⟩
def z1vm (w:World) (a:Adr) (P:PoolM) (L:LogM) (D:DevM) (i:Nat) (x:FrD) (e:Ending) (w':World):Prop:=e=.returned (.int .i64 (wrF P.first x.m L D).2.2.2) /\
 ∃ tv',PoolS w' { a.re a.lv tv' with xs:=a.xs.set i { x with m:=(wrF P.first x.m L D).1 } } { P with ring:=P.ring.set i (wrF P.first x.m L D).1 } (wrF P.first x.m L D).2.1 (wrF P.first x.m L D).2.2.1/\Kept a.K w w' /\
  ∀ z,({ a.re a.lv tv' with xs:=a.xs.set i { x with m:=(wrF P.first x.m L D).1 } }:Adr).K z->a.K z\/w.heap.size<=z
theorem zh6D {α:Type} {l:List α} {i:Nat} {x:α} (h:l[i]?=some x):l.set i x=l:=by
 apply List.ext_getElem?
 intro j
 rw [List.getElem?_set]
 by_cases e:i=j
 ·subst e
  have:=(List.getElem?_eq_some_iff.1 h).1
  rw [if_pos rfl,if_pos this,h]
 ·rw [if_neg e]
theorem PoolS.ringAt (h:PoolS w a P L D) {i:Nat} {x:FrD} (hx:a.xs[i]?=some x):P.ring[i]?=some x.m:=by rw [h.ring,List.getElem?_map,hx];rfl
theorem PoolS.unset {L':LogM} {D':DevM} {tv':Value} {i:Nat} {x:FrD} (hx:a.xs[i]?=some x) (h:PoolS w (a.re a.lv tv') P L' D'):PoolS w { a.re a.lv tv' with xs:=a.xs.set i x } { P with ring:=P.ring.set i x.m } L' D':=by
 have e1:a.xs.set i x=a.xs:=zh6D hx
 have e2:P.ring.set i x.m=P.ring:=zh6D (h.ringAt (show (a.re a.lv tv').xs[i]?=some x from hx))
 rw [e1,e2]
 exact h
theorem z1vm.none {i:Nat} {x:FrD} (hx:a.xs[i]?=some x) {L1:LogM} {D1:DevM} {c:Int} {tv':Value} (he:wrF P.first x.m L D=(x.m,L1,D1,c)) (hs:PoolS w' (a.re a.lv tv') P L1 D1) (hk:Kept a.K w w')
  (hg:∀ z,(a.re a.lv tv').K z->a.K z\/w.heap.size<=z):z1vm w a P L D i x (.returned (.int .i64 c)) w':=by
 unfold z1vm
 rw [he]
 refine ⟨rfl,tv',hs.unset hx,hk,fun z hz=>hg z ?_⟩
 have e1:a.xs.set i { x with m:=x.m }=a.xs:=zh6D hx
 rw [e1] at hz
 exact hz
set_option maxRecDepth 100000 in
set_option maxHeartbeats 1600000 in
theorem zCf5 (h:PoolS w a P L D) (hg:LogG L) (f0:0<=P.first) (f1:P.first<=65536) {i:Nat} {x:FrD} (hx:a.xs[i]?=some x) (p0:0<=x.m.page) (p1:x.m.page<=65536) :
  Calls Tryz.prog 114 #[ptrV a.pb,ptrV x.k] w (z1vm w a P L D i x):=by
 have hxm:=List.mem_of_getElem? hx
 have HX:=qh hx
 have HXM:=qh hxm
 have H:=qh h
 have HG:=qh hg
 have cp1:w.cell? ⟨a.pb,1,none⟩=some (ptrV a.q):=zcjX h.hp rfl
 have cf6:w.cell? ⟨x.k,6,none⟩=some (.int .i64 x.m.last):=zcjX (h.fr x hxm).1 rfl
 have HSF:=qh (fun n=>zOWC (w.drewN n) a.q a.p a.lv a.tv L h.log.hq)
 unfold ptrV at cp1 ⊢
 obtain ⟨X,hX⟩:∃ X,X=wrF P.first x.m L D:=⟨_,rfl⟩
 have HPN:=qh (fun (c:Int) (L1:LogM) (D1:DevM) (tv':Value) (w':World) (he:X=(x.m,L1,D1,c))=>z1vm.none (w:=w) (w':=w') (tv':=tv') hx (hX.symm.trans he))
 have HPO:=qh (show ∀ e w',e=.returned (.int .i64 X.2.2.2)->(∃ tv',PoolS w' { a.re a.lv tv' with xs:=a.xs.set i { x with m:=X.1 } } { P with ring:=P.ring.set i X.1 } X.2.1 X.2.2.1/\Kept a.K w w'/\∀ z,({ a.re a.lv tv' with xs:=a.xs.set i { x with m:=X.1 } }:Adr).K z->a.K z\/w.heap.size<=z)->z1vm w a P L D i x e w' from fun e w' h1 h2=>by
  unfold z1vm;rw [<- hX];exact ⟨h1,h2⟩)
 have HXX:=qh (show X=(let y:=if L.safe<=x.m.last then L.force D else (L,D,0);if y.2.2≠0 then (x.m,y.1,y.2.1,y.2.2) else let z:=y.2.1.write (P.first+x.m.page) x.m.b;if z.1≠0 then (x.m,y.1,z.2,z.1) else ({ x.m with dirty:=false,first:=0 },y.1,z.2,0)) from hX)
 obtain ⟨POST,hPOST⟩:∃ POST,POST=z1vm w a P L D i x:=⟨_,rfl⟩
 rw [<- hPOST] at HPN HPO ⊢
 clear h hxm hx hX hPOST
 have HFO:=qh (fun n=>(H.out.keep0 ((Kept.refl (fun _=>False) w).drewN n)).force HG.out)
 obtain ⟨F,hF⟩:∃ F,F=L.force D:=⟨_,rfl⟩
 rw [<- hF] at HFO HXX
 have HFF:=qh hF
 obtain ⟨pq,hpq⟩:∃ pq,pq=a.q:=⟨_,rfl⟩
 unfold ptrV at HFO
 rw [<- hpq] at cp1 HSF HFO
 obtain ⟨FE,hFE⟩:∃ FE,FE=F.2.2:=⟨_,rfl⟩
 rw [<- hFE] at HFO
 have HFE:=qh hFE
 clear hpq hF hFE
 go_enter Tryz.func114,Tryz.ntmps114
 go_wp2_with fail
 go_quiet (first | (go_at_call 131;exact (HSF.out _).mono (fun _ _ h=>⟨h.1,_,h.2.symm⟩)))
 go_upto_if 16 with fail
 go_cut [5] from 16 to 24 (fun _ wx=>∃ L1 D1 tv1,PoolS wx (a.re a.lv tv1) P L1 D1/\Kept a.K w wx/\(∀ z,(a.re a.lv tv1).K z->a.K z\/w.heap.size<=z)/\(if L.safe<=x.m.last then F else (L,D,0))=(L1,D1,0))
 case first=>
  by_cases hs:L.safe<=x.m.last
  ·have HS:=qh hs
   go_wp2_with fail
   refine (HFO.out _).mono ?_
   rintro e w2 ⟨rfl,tv2,s2,k2,g2⟩
   have S2:=Lib.hid s2
   have K2:=qh (show Kept a.K w w2 from ((Kept.refl a.K w).drewN _).trans' k2)
   have G2:=Lib.hid g2
   clear s2 k2 g2
   by_cases he:FE=0
   ·have HE:=qh (show F=(F.1,F.2.1,0) from by rw [<- he,HFE.out])
    subst he
    go_wp2
    go_meet
    case rel=>exact ⟨F.1,F.2.1,tv2,S2.out,K2.out,G2.out,by rw [if_pos HS.out];exact HE.out⟩
   ·have heb:(FE != 0)=true:=by rw [bne_iff_ne];exact he
    have HE:=qh he
    go_wp2
    show POST (.returned (.int .i64 FE)) w2
    refine HPN.out _ F.1 F.2.1 tv2 _ ?_ S2.out K2.out G2.out
    have hne:¬ F.2.2=0:=by rw [<- HFE.out];exact HE.out
    rw [HXX.out]
    simp only [if_pos HS.out,if_pos hne,HFE.out]
  ·have HS:=qh hs
   go_wp2
   go_meet
   case rel=>exact ⟨L,D,a.tv,H.out.keep0 ((Kept.refl (fun _=>False) w).drewN _),(Kept.refl a.K w).drewN _,fun z hz=>.inl hz,by rw [if_neg (by have:=HS.out;omega)]⟩
 case rest=>
  obtain ⟨L1,D1,tv1,s1,k1,g1,hz⟩:=hcut
  obtain ⟨Y,hY⟩:∃ Y,Y=D1.write (P.first+x.m.page) x.m.b:=⟨_,rfl⟩
  have HXY:=qh (show X=(if Y.1≠0 then (x.m,L1,Y.2,Y.1) else ({ x.m with dirty:=false,first:=0 },L1,Y.2,0)) from by
   rw [HXX.out,hY];dsimp only;rw [hz];exact if_neg (fun h=>h rfl))
  obtain ⟨pp,hpp⟩:∃ pp,pp=a.p:=⟨_,rfl⟩
  have S1:=Lib.hid s1
  have K1:=Lib.hid k1
  have G1:=Lib.hid g1
  have hb1:(wc.drew).heap[a.pb]?=some (.cells (poolC a P) 143 (0,0)):=s1.hp
  have hf1:(wc.drew).heap[x.k]?=some (.cells (frC x) 137 (0,0)):=(s1.fr x HXM.out).1
  have HB1:=qh hb1
  have HF1:=qh hf1
  have HW:=qh (fun (w':World) (hk:Kept (fun _=>False) wc w')=>(s1.keep0 hk).write pp hpp.symm (P.first+x.m.page) (some ⟨x.g,0,none⟩) x.c x.m.b (OwnB.rdq ((s1.keep0 hk).fr x HXM.out).2))
  unfold ptrV at HW
  rw [<- hY] at HW
  obtain ⟨YE,hYE⟩:∃ YE,YE=Y.1:=⟨_,rfl⟩
  rw [<- hYE] at HW
  have HYE:=qh hYE
  have HPP:=qh hpp
  clear hz s1 k1 g1 hY hb1 hf1 hYE HFO HSF cp1 cf6
  have e1:wrap64 (P.first+x.m.page)=P.first+x.m.page:=by unfold wrap64;omega
  have e2:IntKind.i64.wrap (P.first+x.m.page)=P.first+x.m.page:=by rw [IntKind.wrap_i64];omega
  clear hpp
  go_wp2_with fail
  refine znCh 18 (fun w'=>w'.heap[a.pb]?=some (.cells (poolC a P) 143 (0,0))/\w'.heap[x.k]?=some (.cells (frC x) 137 (0,0))) (by kernel_rfl) ⟨HB1.out,HF1.out⟩ (fun hH=>?_)
  simp only [List.length_cons,List.length_nil,List.replicate]
  have HC:=qh (fun (w':World) (h:w'.heap[a.pb]?=some (.cells (poolC a P) 143 (0,0))/\w'.heap[x.k]?=some (.cells (frC x) 137 (0,0)))=>show w'.cell? ⟨a.pb,0,none⟩=some (.pointer (some ⟨pp,0,none⟩))/\w'.cell? ⟨a.pb,2,none⟩=some (.int .i64 P.first)/\w'.cell? ⟨x.k,0,none⟩=some (.int .i64 x.m.page)/\w'.cell? ⟨x.k,1,none⟩=some (.slice (some ⟨x.g,0,none⟩) x.m.b.length x.c) from
   ⟨by rw [HPP.out];exact zcjX h.1 rfl,zcjX h.1 rfl,zcjX h.2 rfl,zcjX h.2 rfl⟩)
  refine tK 0 ?_ (fun w' hw'=>?_) hH ?_
  rotate_left
  ·obtain ⟨c0,c2,d0,d1⟩:=HC.out w' hw'
   go_simp<;>with_reducible rfl
  simp only [Act.put,oZa,oZb,oZc]
  refine tK 1 ?_ (fun w' hw'=>?_) hH ?_
  rotate_left
  ·obtain ⟨c0,c2,d0,d1⟩:=HC.out w' hw'
   go_simp<;>with_reducible rfl
  simp only [Act.put,oZa,oZb,oZc]
  refine tK 2 ?_ (fun w' hw'=>?_) hH ?_
  rotate_left
  ·obtain ⟨c0,c2,d0,d1⟩:=HC.out w' hw'
   go_simp<;>with_reducible rfl
  simp only [Act.put,oZa,oZb,oZc]
  refine tK 3 ?_ (fun w' hw'=>?_) hH ?_
  rotate_left
  ·obtain ⟨c0,c2,d0,d1⟩:=HC.out w' hw'
   go_simp<;>with_reducible rfl
  simp only [Act.put,oZa,oZb,oZc]
  refine tK 4 ?_ (fun w' hw'=>?_) hH ?_
  rotate_left
  ·obtain ⟨c0,c2,d0,d1⟩:=HC.out w' hw'
   go_simp<;>with_reducible rfl
  simp only [Act.put,oZa,oZb,oZc]
  refine tK 5 ?_ (fun w' hw'=>?_) hH ?_
  rotate_left
  ·obtain ⟨c0,c2,d0,d1⟩:=HC.out w' hw'
   go_simp<;>with_reducible rfl
  simp only [Act.put,oZa,oZb,oZc]
  refine tK 6 ?_ (fun w' hw'=>?_) hH ?_
  rotate_left
  ·obtain ⟨c0,c2,d0,d1⟩:=HC.out w' hw'
   go_simp<;>with_reducible rfl
  simp only [Act.put,oZa,oZb,oZc]
  refine tK 7 ?_ (fun w' hw'=>?_) hH ?_
  rotate_left
  ·obtain ⟨c0,c2,d0,d1⟩:=HC.out w' hw'
   go_simp<;>with_reducible rfl
  simp only [Act.put,oZa,oZb,oZc]
  refine tK 8 ?_ (fun w' hw'=>?_) hH ?_
  rotate_left
  ·obtain ⟨c0,c2,d0,d1⟩:=HC.out w' hw'
   go_simp<;>with_reducible rfl
  simp only [Act.put,oZa,oZb,oZc]
  refine tK 9 ?_ (fun w' hw'=>?_) hH ?_
  rotate_left
  ·obtain ⟨c0,c2,d0,d1⟩:=HC.out w' hw'
   go_simp<;>with_reducible rfl
  simp only [Act.put,oZa,oZb,oZc]
  refine tK 10 ?_ (fun w' hw'=>?_) hH ?_
  rotate_left
  ·obtain ⟨c0,c2,d0,d1⟩:=HC.out w' hw'
   go_simp<;>with_reducible rfl
  simp only [Act.put,oZa,oZb,oZc]
  refine tK 11 ?_ (fun w' hw'=>?_) hH ?_
  rotate_left
  ·obtain ⟨c0,c2,d0,d1⟩:=HC.out w' hw'
   go_simp<;>with_reducible rfl
  simp only [Act.put,oZa,oZb,oZc]
  refine tK 12 ?_ (fun w' hw'=>?_) hH ?_
  rotate_left
  ·obtain ⟨c0,c2,d0,d1⟩:=HC.out w' hw'
   go_simp<;>with_reducible rfl
  simp only [Act.put,oZa,oZb,oZc]
  refine tK 13 ?_ (fun w' hw'=>?_) hH ?_
  rotate_left
  ·obtain ⟨c0,c2,d0,d1⟩:=HC.out w' hw'
   go_simp<;>with_reducible rfl
  simp only [Act.put,oZa,oZb,oZc]
  refine tK 14 ?_ (fun w' hw'=>?_) hH ?_
  rotate_left
  ·obtain ⟨c0,c2,d0,d1⟩:=HC.out w' hw'
   go_simp<;>with_reducible rfl
  simp only [Act.put,oZa,oZb,oZc]
  refine tK 15 ?_ (fun w' hw'=>?_) hH ?_
  rotate_left
  ·obtain ⟨c0,c2,d0,d1⟩:=HC.out w' hw'
   go_simp<;>with_reducible rfl
  simp only [Act.put,oZa,oZb,oZc]
  refine tK 16 ?_ (fun w' hw'=>?_) hH ?_
  rotate_left
  ·obtain ⟨c0,c2,d0,d1⟩:=HC.out w' hw'
   go_simp<;>with_reducible rfl
  simp only [Act.put,oZa,oZb,oZc]
  refine stepL 17 rfl (by kernel_rfl) (fun K hK=>?_)
  go_simp
  refine (HW.out _ ((Kept.refl (fun _=>False) wc).drew)).mono ?_
  rintro e w5 ⟨rfl,s5,k5,g5⟩
  have S5:=Lib.hid s5
  have K5:=qh (K1.out.drew.trans k5 (fun z hz h=>by
   rcases G1.out z h with h | h
   ·exact h
   ·omega))
  have G5:=qh (show ∀ z,(a.re a.lv tv1).K z->a.K z\/w.heap.size<=z from fun z hz=>by
   rcases g5 z hz with h | h
   ·exact G1.out z h
   ·exact .inr (by have h1:=K1.out.size;have h2:wc.drew.heap.size=wc.heap.size:=rfl;omega))
  clear s5 k5 g5
  go_simp
  refine hK.out _ _ (fun _=>⟨S5.out.hp,(S5.out.fr x HXM.out).1⟩) (fun _=>?_)
  simp only [oZa,oZb,oZc]
  clear hK K
  refine stepL 18 rfl (by kernel_rfl) (fun K hK=>?_)
  go_simp
  refine hK.out _ _ (fun h=>absurd rfl h) (fun _=>?_)
  simp only [oZa,oZb,oZc]
  clear hK K hH HC HW
  refine doneL (by kernel_rfl) ?_ _
  by_cases he:YE=0
  ·subst he
   have HX0:=qh (show X=({ x.m with dirty:=false,first:=0 },L1,Y.2,0) from by rw [HXY.out];exact if_neg (fun h=>h HYE.out.symm))
   go_wp2_with (refine z2q7 rfl 4 _ _ rfl x.k 4 (.bool false) (frC x) rfl rfl (S5.out.fr x HXM.out).1 (by kernel_rfl) (by show 4 < 7;decide) rfl ?_)
   intro w6 hb6 hk6
   have HB6:=qh hb6
   have HK6:=qh hk6
   clear hb6 hk6
   go_wp2_with (refine z2q7 rfl 2 _ _ rfl x.k 5 (.int .i64 0) _ rfl rfl HB6.out (by kernel_rfl) (by show 5 < 7;decide) rfl ?_)
   intro w7 hb7 hk7
   have HB7:=qh (show w7.heap[x.k]?=some (.cells (frC { x with m:={ x.m with dirty:=false,first:=0 } }) 137 (0,0)) from hb7)
   have HK7:=qh (HK6.out.trans' hk7)
   clear hb7 hk7 HK6 HB6
   go_wp2
   show POST (.returned (.int .i64 0)) w7
   have hs:=S5.out.setF (y:={ x with m:={ x.m with dirty:=false,first:=0 } }) HX.out rfl rfl rfl HB7.out ((S5.out.fr x HXM.out).2.keep HK7.out (fun e=>(S5.out.tg HXM.out).ne (S5.out.tk HXM.out) (by decide) e)) (HK7.out.mono (fun z _ h=>.inl h))
   refine HPO.out _ _ ?_ ⟨tv1,?_,?_,?_⟩
   ·rw [HX0.out]
   ·rw [HX0.out];exact hs.1
   ·exact K5.out.trans hs.2.1 (fun z hz h=>by
     rcases G5.out z h with h | h
     ·exact h
     ·omega)
   ·rw [HX0.out]
    intro z hz
    rcases hs.2.2 z hz with h | h
    ·exact G5.out z h
    ·exact .inr (by have:=K5.out.size;omega)
  ·have heb:(YE != 0)=true:=by rw [bne_iff_ne];exact he
   have HE:=qh he
   go_wp2
   show POST (.returned (.int .i64 YE)) w5
   exact HPN.out _ L1 Y.2 tv1 _ (by rw [HXY.out,HYE.out];exact if_pos (fun h=>HE.out (HYE.out.trans h))) S5.out K5.out G5.out
end
structure PoolN (P:PoolM):Prop where
 f0:0<=P.first
 fb:P.first+P.blocks<=65536
 m0:1<=P.most
 m1:P.most<=1024
 len:(P.ring.length:Int)<=P.most
 h0:0<=P.hand
 h1:P.hand<=P.ring.length
 pg:∀ f∈P.ring,0<=f.page/\f.page < P.blocks
 nd:(P.ring.map (·.page)).Nodup
theorem zz3g {w:World} {base g cap n:Nat} {e:TypeId} {xs:List Value} (h:w.ownsRow base e 1 (.slice (some ⟨g,0,none⟩) n cap) n xs) {k:Nat} {v:Value} (hk:xs[k]?=some v):w.cell? ⟨g,k,none⟩=some v:=by
 have hl:k < n:=by
  have h1:=(List.getElem?_eq_some_iff.1 hk).1
  have h2:=h.1
  omega
 rw [h.cellAt k (by omega)]
 exact hk
section
variable {w w':World} {a:Adr} {P:PoolM} {L:LogM} {D:DevM}
theorem PoolS.len (h:PoolS w a P L D):P.ring.length=a.xs.length:=by rw [h.ring,List.length_map]
theorem PoolS.rowAt (h:PoolS w a P L D) (hl:0 < a.xs.length):∃ g c,a.rv=.slice (some ⟨g,0,none⟩) a.xs.length c:=by
 obtain ⟨g,c,e,_⟩:=h.row.form hl
 exact ⟨g,c,e⟩
set_option maxRecDepth 100000 in
set_option maxHeartbeats 1600000 in
theorem z0wP (h:PoolS w a P L D) (hn:PoolN P) (hl:0 < a.xs.length) :
  Calls Tryz.prog 136 #[.pointer (some ⟨a.pb,5,none⟩)] w (fun e w'=>∃ x,a.xs[(P.hand % (a.xs.length:Int)).toNat]?=some x/\e=.returned (.tuple #[ptrV x.k,.int .i64 ((P.hand % (a.xs.length:Int)).toNat:Int)]) /\
   w'.heap[a.pb]?=some (.cells (poolC a { P with hand:=((P.hand % (a.xs.length:Int)).toNat:Int)+1 }) 143 (0,0))/\Kept (fun z=>z=a.pb) w w'):=by
 obtain ⟨g,c,hrv⟩:=h.rowAt hl
 obtain ⟨n,hn0⟩:∃ n,n=a.xs.length:=⟨_,rfl⟩
 have n0:0 < n:=by omega
 have n1:(n:Int)<=1024:=by have h1:=hn.len;have h2:=hn.m1;rw [h.len] at h1;omega
 have h0:=hn.h0
 have h1:P.hand<=1024:=by have e1:=hn.h1;have e2:=hn.len;have e3:=hn.m1;omega
 obtain ⟨k,hk⟩:∃ k,k=(P.hand % (n:Int)).toNat:=⟨_,rfl⟩
 have e1:P.hand.tmod (n:Int)=(k:Int):=by
  have:=Int.emod_nonneg P.hand (show (n:Int)≠0 by omega)
  rw [Int.tmod_eq_emod_of_nonneg h0,hk];omega
 have kn:k < n:=by
  have:=Int.emod_lt_of_pos P.hand (show 0 < (n:Int) by omega)
  have:=Int.emod_nonneg P.hand (show (n:Int)≠0 by omega)
  omega
 obtain ⟨x,hx⟩:∃ x,a.xs[k]?=some x:=⟨_,List.getElem?_eq_getElem (by omega)⟩
 have hrow:=h.row
 rw [<- hn0] at hrv hrow ⊢
 rw [<- hk]
 rw [hrv] at hrow
 have hcx:∀ w6,Kept (fun z=>z=a.pb) w w6->w6.cell? ⟨g,k,none⟩=some (.pointer (some ⟨x.k,0,none⟩)):=fun w6 h6=>zz3g (zh0U hrow h6 (fun z hz e=>by
  cases hz
  exact (h.trv (x:=g) (by rw [hrv];rfl)).ne h.tpb (by decide) e)) (k:=k) (v:=ptrV x.k) (by rw [List.getElem?_map,hx];rfl)
 have HB:=qh h.hp
 have HX:=qh hx
 have HRV:=qh hrv
 have cp5:w.cell? ⟨a.pb,5,none⟩=some (.slice (some ⟨g,0,none⟩) n c):=by rw [<- hrv];exact zcjX h.hp rfl
 have cp6:w.cell? ⟨a.pb,6,none⟩=some (.int .i64 P.hand):=zcjX h.hp rfl
 have HCX:=qh hcx
 obtain ⟨POST,hPOST⟩:∃ POST:Ending->World->Prop,POST=(fun e w'=>∃ x,a.xs[k]?=some x/\e=.returned (.tuple #[ptrV x.k,.int .i64 (k:Int)]) /\
   w'.heap[a.pb]?=some (.cells (poolC a { P with hand:=(k:Int)+1 }) 143 (0,0))/\Kept (fun z=>z=a.pb) w w'):=⟨_,rfl⟩
 rw [<- hPOST]
 have HPO:=qh (show ∀ w',w'.heap[a.pb]?=some (.cells (poolC a { P with hand:=(k:Int)+1 }) 143 (0,0))->Kept (fun z=>z=a.pb) w w'->POST (.returned (.tuple #[.pointer (some ⟨x.k,0,none⟩),.int .i64 (k:Int)])) w' from fun w' h1 h2=>by
  rw [hPOST];exact ⟨x,hx,rfl,h1,h2⟩)
 clear h hn hl hn0 hk hx hrv hrow hcx hPOST HX
 go_enter Tryz.func136,Tryz.ntmps136
 go_wp2_with fail
 go_quiet (fail)
 go_wp2_with (refine z2q7 rfl 3 _ _ rfl a.pb 6 (.int .i64 ((k:Int)+1)) (poolC a P) rfl rfl HB.out (by kernel_rfl) (by show 6 < 8;decide) rfl ?_)
 intro w6 hb6 hk6
 have HB6:=qh hb6
 have HK6:=qh (show Kept (fun z=>z=a.pb) w w6 from ((Kept.refl _ w).drewN _).trans' hk6)
 clear hb6 hk6
 have c5:w6.cell? ⟨a.pb,5,none⟩=some (.slice (some ⟨g,0,none⟩) n c):=by rw [<- HRV.out];exact zcjX HB6.out rfl
 have c7:w6.cell? ⟨g,k,none⟩=some (.pointer (some ⟨x.k,0,none⟩)):=HCX.out _ HK6.out
 go_wp2
 exact HPO.out _ HB6.out HK6.out
end
end Go.Proofs.YtfgagakepmigbaaGreat
namespace Go.Proofs.YtfgagakepmigbaaGreat
open Go.RowKit
open Go.ChangeMaps (setBlock heap_setBlock_same heap_setBlock_other)
def EnAt (w:World) (b:Nat) (f:Int->Option Value) (n:Int) (cl:Int):Prop:=
 ∃ es clock z,w.heap[b]?=some (.map (es.push { key:=.int .i64 n,val:=z,born:=clock }) (clock+1))/\cl=(clock:Int)/\MapKept.Stamped es clock/\(∀ x∈es.toList,MapKept.IsKey (.int .i64) x.key) /\
  (∀ n v,f n=some v↔∃ x∈es.toList,x.key=.int .i64 n/\x.val=v)/\∀ x∈es.toList,x.key≠.int .i64 n
section
variable {P:Program} {w w':World} {b:Nat} {f:Int->Option Value} {t k e:TypeId}
theorem IMap.entry (h:IMap w b f) (ht:P.underlying t=some (.map k e)) (hk:P.underlying k=some (.int .i64)) {z:Value} (hz:(zeroValue e).run P w=.ok z w) (n:Int) (hn:f n=none) :
  ∃ w' cl,(Instr.mapEntry t (.map (some b)) (.int .i64 n)).run P w=.ok (.tuple #[z,.int .i64 cl]) w'/\EnAt w' b f n cl/\Kept (· = b) w w':=by
 obtain ⟨es,clock,hb,hs,hks,hf⟩:=h
 rcases zkwn hks hf n with ⟨h1,h2,hno⟩ | ⟨j,x,h1,hj,hxk,h2⟩
 ·refine ⟨setBlock w b (.map (es.push { key:=.int .i64 n,val:=z,born:=clock }) (clock+1)),clock,?_,⟨es,clock,z,heap_setBlock_same hb _,rfl,hs,hks,hf,hno⟩,(Kept.refl (fun x=>x=b) w).setBlock (Or.inr rfl) _⟩
  simp [Instr.mapEntry,run_underlying ht,MapKept.run_getObj_map hb,MapKept.run_checkKey hk (show MapKept.IsKey (.int .i64) (.int .i64 n) from rfl),MapKept.run_findKey hk h1,hz,MapKept.run_setObj_map _ hb,Result.andThen,setBlock,goInt]
 ·rw [hn] at h2;cases h2
theorem EnAt.store {cl n:Int} (h:EnAt w b f n cl) (t:TypeId) (v:Value):∃ w',(Instr.entryStore t (.map (some b)) (.int .i64 cl) v).run P w=.ok () w'/\IMap w' b (updF f n v)/\Kept (· = b) w w':=by
 obtain ⟨es,clock,z,hb,rfl,hs,hks,hf,hno⟩:=h
 have h1:=((MapKept.stamped_iff es clock).1 hs).1
 have hfi:(es.push { key:=.int .i64 n,val:=z,born:=clock }).findIdx? (fun e=>(e.born:Int) == (clock:Int))=some es.size:=by
  rw [Array.findIdx?_push]
  have:es.findIdx? (fun e=>(e.born:Int) == (clock:Int))=none:=by
   rw [Array.findIdx?_eq_none_iff]
   intro x hx
   have:=h1 x (by simpa using hx)
   simp;omega
  rw [this]
  simp
 have hm:(es.push { key:=.int .i64 n,val:=z,born:=clock }).modify es.size (fun e=>{ e with val:=v })=es.push { key:=.int .i64 n,val:=v,born:=clock }:=by
  apply Array.ext_getElem?
  intro i
  rw [Array.getElem?_modify,Array.getElem?_push,Array.getElem?_push]
  by_cases hi:es.size=i
  ·subst hi;simp
  ·have:¬ i=es.size:=fun e=>hi e.symm
   simp [hi,this]
 refine ⟨setBlock w b (.map (es.push { key:=.int .i64 n,val:=v,born:=clock }) (clock+1)),?_,⟨_,_,heap_setBlock_same hb _,MapKept.stamped_push hs hno,?_,?_⟩,(Kept.refl (fun x=>x=b) w).setBlock (Or.inr rfl) _⟩
 ·simp [Instr.entryStore,MapKept.run_getObj_map hb,Result.andThen,asInt,asIntOf,hfi,hm,MapKept.run_setObj_map _ hb,setBlock]
 ·intro x hx
  simp only [Array.toList_push,List.mem_append,List.mem_singleton] at hx
  rcases hx with hx | rfl
  ·exact hks x hx
  ·rfl
 ·intro m u
  simp only [Array.toList_push,List.mem_append,List.mem_singleton,updF]
  by_cases hm:m=n
  ·subst hm
   simp only [if_true,Option.some.injEq]
   constructor
   ·rintro rfl;exact ⟨_,.inr rfl,rfl,rfl⟩
   ·rintro ⟨x,hx | rfl,hxk,hxv⟩
    ·exact absurd hxk (hno x hx)
    ·exact hxv
  ·simp only [hm,if_false,hf]
   constructor
   ·rintro ⟨x,hx,r⟩;exact ⟨x,.inl hx,r⟩
   ·rintro ⟨x,hx | rfl,hxk,hxv⟩
    ·exact ⟨x,hx,hxk,hxv⟩
    ·injection hxk with _ e;exact absurd e.symm hm
theorem zxHU {ops:Array Oper} {Q:Exit->Act->World->Prop} {E:Prop} {K:Act->World->Prop} {a:Act} {o:Oper} (hg:o.guard=none) (v:Value) (hr:(execOp a.eval o).run P w=.ok (.value v) w') (hk:K (a.put o.dst v) w') :
  if Region.wanted o (yielded ops a.tmps)=true then Oper.wp P o a w K Q else E:=by
 rw [if_pos (by simp [Region.wanted,hg])]
 unfold Oper.wp
 rw [hr]
 exact hk
theorem zoRo {ops:Array Oper} {Q:Exit->Act->World->Prop} {E:Prop} {K:Act->World->Prop} {a:Act} {o:Oper} (hg:o.guard=none) (hr:(execOp a.eval o).run P w=.ok .skip w') (hk:K (a.put o.dst undef) w') :
  if Region.wanted o (yielded ops a.tmps)=true then Oper.wp P o a w K Q else E:=by
 rw [if_pos (by simp [Region.wanted,hg])]
 unfold Oper.wp
 rw [hr]
 exact hk
end
theorem zHj9 {ops:Array Oper} {Q:Exit->Act->World->Prop} {E:Prop} {K:Act->World->Prop} {a:Act} {w:World} {o:Oper} (hg:o.guard=none) (m x:Operand) (t kt:TypeId) (ho:o.op=.call { callee:=.builtin .delete,args:=#[m,x],argTypes:=#[t,kt] })
  {b:Nat} {n:Int} {f:Int->Option Value} {e:TypeId} (hm:a.eval m=.map (some b)) (hx:a.eval x=.int .i64 n) (h:IMap w b f) (ht:(Tryz.prog).underlying t=some (.map kt e)) (hk:(Tryz.prog).underlying kt=some (.int .i64))
  (k:∀ w',IMap w' b (delF f n)->Kept (· = b) w w'->K (a.put o.dst (.tuple #[])) w'):if Region.wanted o (yielded ops a.tmps)=true then Oper.wp Tryz.prog o a w K Q else E:=by
 rw [if_pos (by simp [Region.wanted,hg])]
 obtain ⟨w',hr,h1,h2,_⟩:=h.delete ht hk n o.type
 unfold Oper.wp
 simp [execOp,ho,resolve,invoke,builtin,hm,hx,hr,Result.andThen]
 exact k w' h1 h2
theorem z8mm {ops:Array Oper} {Q:Exit->Act->World->Prop} {E:Prop} {K:Act->World->Prop} {a:Act} {w:World} {o:Oper} (hg:o.guard=none) (t:TypeId) (m x:Operand) (ho:o.op=.mapEntry t m x)
  {b:Nat} {n:Int} {f:Int->Option Value} {kt e:TypeId} (hm:a.eval m=.map (some b)) (hx:a.eval x=.int .i64 n) (h:IMap w b f) (ht:(Tryz.prog).underlying t=some (.map kt e)) (hk:(Tryz.prog).underlying kt=some (.int .i64)) {z:Value} (hz:(zeroValue e).run Tryz.prog w=.ok z w) (hn:f n=none)
  (k:∀ w' cl,EnAt w' b f n cl->Kept (· = b) w w'->K (a.put o.dst (.tuple #[z,.int .i64 cl])) w'):if Region.wanted o (yielded ops a.tmps)=true then Oper.wp Tryz.prog o a w K Q else E:=by
 obtain ⟨w',cl,hr,h1,h2⟩:=h.entry ht hk hz n hn
 refine zxHU hg (.tuple #[z,.int .i64 cl]) ?_ (k w' cl h1 h2)
 simp [execOp,ho,hm,hx,hr,Result.andThen]
theorem zhT4 {ops:Array Oper} {Q:Exit->Act->World->Prop} {E:Prop} {K:Act->World->Prop} {a:Act} {w:World} {o:Oper} (hg:o.guard=none) (t:TypeId) (m x y:Operand) (ho:o.op=.entryStore t m x y)
  {b:Nat} {n cl:Int} {f:Int->Option Value} (v:Value) (hm:a.eval m=.map (some b)) (hx:a.eval x=.int .i64 cl) (hy:a.eval y=v) (h:EnAt w b f n cl)
  (k:∀ w',IMap w' b (updF f n v)->Kept (· = b) w w'->K (a.put o.dst undef) w'):if Region.wanted o (yielded ops a.tmps)=true then Oper.wp Tryz.prog o a w K Q else E:=by
 obtain ⟨w',hr,h1,h2⟩:=h.store (P:=Tryz.prog) t v
 refine zoRo hg ?_ (k w' h1 h2)
 simp [execOp,ho,hm,hx,hy,hr,Result.andThen]
theorem zpse {ops:Array Oper} {Q:Exit->Act->World->Prop} {E:Prop} {K:Act->World->Prop} {a:Act} {w:World} {o:Oper} (hg:o.guard=none) (t:TypeId) (x y:Operand) (ho:o.op=.store t x y) {base g n cap i:Nat} {e:TypeId} {xs:List Value} (v:Value)
  (hx:a.eval x=.pointer (some ⟨g,i,none⟩)) (hy:a.eval y=v) (h:w.ownsRow base e 1 (.slice (some ⟨g,0,none⟩) n cap) n xs) (hi:((Tryz.prog).info? t).map (·.size)=some 1) (hlt:i < n) (h1:v.oneCell'=true)
  (k:∀ w',w'.ownsRow base e 1 (.slice (some ⟨g,0,none⟩) n cap) n (xs.set i v)->Kept (fun x=>x=g) w w'->K (a.put o.dst undef) w'):if Region.wanted o (yielded ops a.tmps)=true then Oper.wp Tryz.prog o a w K Q else E:=by
 obtain ⟨hl,h⟩:=h
 rcases h with ⟨e1,_⟩ | ⟨g',cap',cur,e1,hb,hh,h2,h3,h4,h5⟩
 ·cases e1
 ·cases e1
  refine zRRc hg t x y ho g i v cur hx hy hh hi (by omega) h1 (fun w' hb' hk=>k w' ⟨by rw [List.length_set];exact hl,.inr ⟨g,cap,_,rfl,hb,hb',h2,h3,by simpa using h4,?_⟩⟩ hk)
  rw [Array.toList_setIfInBounds,List.take_set,h5]
end Go.Proofs.YtfgagakepmigbaaGreat
namespace Go.Proofs.YtfgagakepmigbaaGreat
open Go.RowKit
def ptrs (xs:List FrD):List Value:=xs.map fun x=>ptrV x.k
structure PoolT (w0 w':World) (a0:Adr) (P1:PoolM) (L1:LogM) (D1:DevM) (rv':Value) (vs:List Value) (f':Int->Option Value):Prop where
 s:PoolS w0 a0 P1 L1 D1
 k:Kept (fun z=>z=a0.pb\/z=a0.mb\/a0.rv.ownBlock=some z) w0 w'
 hp:w'.heap[a0.pb]?=some (.cells (poolC { a0 with rv:=rv' } P1) 143 (0,0))
 own:OwnTo w0 a0.rv rv'
 row:w'.ownsRow 0 133 1 rv' vs.length vs
 map:IMap w' a0.mb f'
structure AdrTo (w:World) (a:Adr) (w':World) (a':Adr):Prop where
 fix:a.Fix a'
 k:Kept a.K w w'
 g:∀ x,a'.K x->a.K x\/w.heap.size<=x
theorem AdrTo.refl (w:World) (a:Adr):AdrTo w a w a:=⟨.refl a,Kept.refl _ _,fun _ h=>.inl h⟩
theorem AdrTo.trans {w w1 w2:World} {a a1 a2:Adr} (h:AdrTo w a w1 a1) (k:AdrTo w1 a1 w2 a2):AdrTo w a w2 a2:=⟨h.fix.trans k.fix,h.k.trans k.k (fun x hx h'=>by
 rcases h.g x h' with h1 | h1
 ·exact h1
 ·omega),fun x hx=>by
 rcases k.g x hx with h1 | h1
 ·exact h.g x h1
 ·have:=h.k.size;exact .inr (by omega)⟩
theorem AdrTo.keep0 {w w1 w2:World} {a a1:Adr} (h:AdrTo w a w1 a1) (k:Kept (fun _=>False) w1 w2):AdrTo w a w2 a1:=⟨h.fix,h.k.trans0 k,h.g⟩
theorem AdrTo.post {w w1:World} {a a1:Adr} {P:PoolM} {L:LogM} {D:DevM} (h:AdrTo w a w1 a1) (hs:PoolS w1 a1 P L D):PPost w a P L D w1:=⟨a1,h.fix,hs,h.k,h.g⟩
def z9dm (w:World) (a:Adr) (P:PoolM) (L:LogM) (D:DevM) (e:Ending) (w':World):Prop:=
 if (P.ring.length:Int) < P.most then e=.returned (.tuple #[.int .i64 a.xs.length,.int .i64 0])/\∃ rv',PoolT w w' a P L D rv' (ptrs a.xs ++ [.pointer none]) (pagesF a.xs)
 else
  let X:=zNrE (2*P.most+1).toNat P L D
  if X.2.2.2.2≠0 then e=.returned (.tuple #[.int .i64 0,.int .i64 X.2.2.2.2])/\PPost w a X.1 X.2.1 X.2.2.1 w'
  else e=.returned (.tuple #[.int .i64 X.2.2.2.1,.int .i64 0])/\∃ w0 a0 x0,AdrTo w a w0 a0/\a0.xs[X.2.2.2.1]?=some x0/\PoolT w0 w' a0 X.1 X.2.1 X.2.2.1 a0.rv (ptrs a0.xs) (delF (pagesF a0.xs) x0.m.page)
theorem zHZI {P:PoolM} {L:LogM} {D:DevM} {m k:Nat} {f:FrM} (hk:(P.hand % P.ring.length).toNat=k) (hf:P.ring[k]?=some f):zNrE (m+1) P L D =
  (if 0 < f.held then zNrE m { P with hand:=(k:Int)+1 } L D else
   if f.used then zNrE m { P with hand:=(k:Int)+1,ring:=P.ring.set k { f with used:=false } } L D else
   if f.dirty then
    let x:=wrF P.first f L D
    if x.2.2.2≠0 then ({ P with hand:=(k:Int)+1 },x.2.1,x.2.2.1,0,x.2.2.2) else ({ P with hand:=(k:Int)+1,ring:=P.ring.set k x.1 },x.2.1,x.2.2.1,k,0)
   else ({ P with hand:=(k:Int)+1 },L,D,k,0)):=by
 subst hk
 rw [zNrE]
 simp only [hf]
theorem zpOZ (P:PoolM) (L:LogM) (D:DevM):zNrE 0 P L D=(P,L,D,0,9):=rfl
section
variable {w w':World} {a:Adr} {P:PoolM} {L:LogM} {D:DevM}
theorem PoolS.setH (h:PoolS w a P L D) {n:Int} (hb:w'.heap[a.pb]?=some (.cells (poolC a { P with hand:=n }) 143 (0,0))) (hk:Kept (fun z=>z=a.pb) w w') :
  PoolS w' a { P with hand:=n } L D/\AdrTo w a w' a:=by
 have far:∀ z,a.logK z->¬ (z=a.pb):=fun z hz e=>(h.far hz).1 e
 refine ⟨⟨h.log.keep hk far,hb,h.map.kept hk (fun e=>h.tpb.nem h.map e.symm),zh0U h.row hk (fun z hz e=>(h.trv hz).ne h.tpb (by decide) e),fun x hx=>⟨hk.heap (h.fr x hx).1 (fun e=>(h.tk hx).ne h.tpb (by decide) e),(h.fr x hx).2.keep hk (fun e=>(h.tg hx).ne h.tpb (by decide) e)⟩,h.ring,h.ndk,h.ndg,h.ngt,h.nm⟩,
  .refl a,hk.mono (fun z _ e=>.inr (.inl e)),fun z hz=>.inl hz⟩
theorem PoolN.hand (h:PoolN P) {n:Int} (h0:0<=n) (h1:n<=P.ring.length):PoolN { P with hand:=n }:=⟨h.f0,h.fb,h.m0,h.m1,h.len,h0,h1,h.pg,h.nd⟩
theorem PoolN.set (h:PoolN P) {k:Nat} {f g:FrM} (hf:P.ring[k]?=some f) (hp:g.page=f.page):PoolN { P with ring:=P.ring.set k g }:=by
 have e:(P.ring.set k g).map (·.page)=P.ring.map (·.page):=zBCX hf hp
 refine ⟨h.f0,h.fb,h.m0,h.m1,by show ((P.ring.set k g).length:Int)<=_;rw [List.length_set];exact h.len,h.h0,by show P.hand<=((P.ring.set k g).length:Int);rw [List.length_set];exact h.h1,fun x hx=>?_,by show ((P.ring.set k g).map (·.page)).Nodup;rw [e];exact h.nd⟩
 have hm:x.page∈(P.ring.set k g).map (·.page):=List.mem_map_of_mem hx
 rw [e] at hm
 obtain ⟨y,hy,e2⟩:=List.mem_map.1 hm
 rw [<- e2]
 exact h.pg y hy
theorem PoolS.unuse (h:PoolS w a P L D) {i:Nat} {x:FrD} (u:Bool) (hx:a.xs[i]?=some x) (hb:w'.heap[x.k]?=some (.cells (frC { x with m:={ x.m with used:=u } }) 137 (0,0))) (hk:Kept (fun z=>z=x.k) w w') :
  PoolS w' { a with xs:=a.xs.set i { x with m:={ x.m with used:=u } } } { P with ring:=P.ring.set i { x.m with used:=u } } L D/\AdrTo w a w' { a with xs:=a.xs.set i { x with m:={ x.m with used:=u } } }:=by
 have hxm:=List.mem_of_getElem? hx
 have:=h.setF (y:={ x with m:={ x.m with used:=u } }) hx rfl rfl rfl hb ((h.fr x hxm).2.keep hk (fun e=>(h.tg hxm).ne (h.tk hxm) (by decide) e)) (hk.mono (fun z _ e=>.inl e))
 exact ⟨this.1,⟨rfl,rfl,rfl,rfl,rfl,rfl⟩,this.2.1,this.2.2⟩
theorem zcC1 {pf:Int} {f:FrM} (h:(wrF pf f L D).2.2.2≠0):(wrF pf f L D).1=f:=by
 obtain ⟨y,hy⟩:∃ y,y=(if L.safe<=f.last then L.force D else (L,D,0)):=⟨_,rfl⟩
 have e:wrF pf f L D=(if y.2.2≠0 then (f,y.1,y.2.1,y.2.2) else if (y.2.1.write (pf+f.page) f.b).1≠0 then (f,y.1,(y.2.1.write (pf+f.page) f.b).2,(y.2.1.write (pf+f.page) f.b).1) else ({ f with dirty:=false,first:=0 },y.1,(y.2.1.write (pf+f.page) f.b).2,0)):=by rw [hy];rfl
 rw [e] at h ⊢
 split
 ·rfl
 ·rename_i h1
  rw [if_neg h1] at h
  split
  ·rfl
  ·rename_i h2
   rw [if_neg h2] at h
   exact absurd rfl h
theorem z1vm.to {i:Nat} {x:FrD} {e:Ending} (hx:a.xs[i]?=some x) (h:z1vm w a P L D i x e w'):e=.returned (.int .i64 (wrF P.first x.m L D).2.2.2) /\
  ∃ a',PoolS w' a' { P with ring:=P.ring.set i (wrF P.first x.m L D).1 } (wrF P.first x.m L D).2.1 (wrF P.first x.m L D).2.2.1/\AdrTo w a w' a'/\a'.xs[i]?=some { x with m:=(wrF P.first x.m L D).1 }/\a'.xs.map (·.k)=a.xs.map (·.k):=by
 obtain ⟨he,tv',hs,hk,hg⟩:=h
 refine ⟨he,_,hs,⟨⟨rfl,rfl,rfl,rfl,rfl,rfl⟩,hk,hg⟩,?_,zBCX hx rfl⟩
 have hl:=(List.getElem?_eq_some_iff.1 hx).1
 exact List.getElem?_set_self hl
end
section
variable {w w':World} {a:Adr} {P:PoolM} {L:LogM} {D:DevM}
theorem zEZX:((Tryz.prog).info? 133).map (fun i=>(i.zero,i.size,i.bytes))=some (some (.pointer none),1,8):=by kernel_rfl
set_option maxRecDepth 100000 in
set_option maxHeartbeats 1600000 in
theorem z8ai (h:PoolS w a P L D) (hn:PoolN P) (hl:(P.ring.length:Int) < P.most):Calls Tryz.prog 124 #[ptrV a.pb] w (z9dm w a P L D):=by
 have hl2:=hl
 rw [h.len] at hl2
 have hm1:=hn.m1
 obtain ⟨n,hn0⟩:∃ n,n=a.xs.length:=⟨_,rfl⟩
 have H:=qh h
 have HB:=qh h.hp
 have hrow:=h.row
 obtain ⟨ra,rn,rc,hrv,hrn⟩:∃ A n c,a.rv=.slice A n c/\n=a.xs.length:=by
  rcases hrow.2 with ⟨e,h0⟩ | ⟨g,c,cur,e,_⟩
  ·exact ⟨none,0,0,e,h0.symm⟩
  ·exact ⟨_,_,_,e,rfl⟩
 have hrn2:rn=n:=by omega
 subst hrn2
 have cp5:w.cell? ⟨a.pb,5,none⟩=some (.slice ra rn rc):=by rw [<- hrv];exact zcjX h.hp rfl
 have cp4:w.cell? ⟨a.pb,4,none⟩=some (.int .i64 P.most):=zcjX h.hp rfl
 have hpb:a.rv.ownBlock≠some a.pb:=fun e=>(h.trv e).ne h.tpb (by decide) rfl
 have hmb:a.rv.ownBlock≠some a.mb:=fun e=>(h.trv e).nem h.map rfl
 have HPB:=qh hpb
 have HMB:=qh hmb
 rw [<- hn0] at hrow hl2
 have HR:=qh hrow
 have HRV:=qh hrv
 obtain ⟨POST,hPOST⟩:∃ POST:Ending->World->Prop,POST=z9dm w a P L D:=⟨_,rfl⟩
 have HPO:=qh (show ∀ w' rv',PoolT w w' a P L D rv' (ptrs a.xs ++ [.pointer none]) (pagesF a.xs)->POST (.returned (.tuple #[.int .i64 (rn:Int),.int .i64 0])) w' from fun w' rv' h1=>by
  rw [hPOST];unfold z9dm;rw [if_pos hl,<- hn0];exact ⟨rfl,rv',h1⟩)
 have HLT:=qh (show (rn:Int) < P.most from hl2)
 have HN:=qh hn0
 rw [<- hPOST]
 clear h hl hn hn0 hrow hrv hpb hmb hPOST hrn
 unfold ptrV
 go_enter Tryz.func124,Tryz.ntmps124
 go_wp2_with fail
 go_quiet (fail)
 generalize hwd:w.drewN nq=wd
 have HWD:=qh (show Kept (fun _=>False) w wd from by rw [<- hwd];exact (Kept.refl (fun _=>False) w).drewN _)
 have HBd:=qh (HWD.out.heap HB.out id)
 have HRd:=qh (show wd.ownsRow 0 133 1 (.slice ra rn rc) rn (ptrs a.xs) from by rw [<- HRV.out];exact zh0U HR.out HWD.out (fun _ _=>id))
 have cp5d:wd.cell? ⟨a.pb,5,none⟩=some (.slice ra rn rc):=by rw [<- hwd];exact cp5
 clear hwd cp5 cp4 HR
 go_wp2_with (at_builtin;refine zdvL rfl _ _ 138 rfl 0 133 Tryz.underlying138 zEZX rfl (by omega) (.slice ra rn rc) rn (ptrs a.xs) rfl ?hrow wd.heap.size 0 1 1 [.pointer none] rfl rfl (fun j u hu=>?hnews) (fun u hu=>?h1) (by omega) ?h63 ?hbytes (Nat.zero_le _) ?_)
 case hrow=>exact zh0U HRd.out ((Kept.refl (fun _=>False) wd).alloc _) (fun _ _=>id)
 case hnews=>
  have hj:j=0:=by have:=(List.getElem?_eq_some_iff.1 hu).1;simpa using this
  subst hj
  cases hu
  exact zcjX (heap_alloc_new wd _) rfl
 case h1=>rw [List.mem_singleton] at hu;subst hu;rfl
 case h63=>have e63:maxLen=9223372036854775807:=rfl;omega
 case hbytes=>omega
 intro g cap w5 ho5 _ hg5 hl5
 have HO5:=qh ho5
 have KA:=qh (HWD.out.alloc (.cells #[Value.pointer none] 133))
 have HK5:=qh (show Kept (fun z=>a.rv.ownBlock=some z) w w5 from by
  rw [HRV.out]
  rcases hg5 with ⟨⟨e1,e2⟩,hk⟩ | ⟨e1,hk⟩
  ·exact (KA.out.mono (fun _ _ h=>h.elim)).trans hk (fun x _ hx=>by subst hx;rw [e1];rfl)
  ·exact (KA.out.mono (fun _ _ h=>h.elim)).trans0 hk)
 have HG5:=qh (show ∀ x,(Value.slice (some ⟨g,0,none⟩) (rn+1) cap).ownBlock=some x->a.rv.ownBlock=some x\/w.heap.size<=x from fun x hx=>by
  cases hx
  rw [HRV.out]
  rcases hg5 with ⟨⟨e1,e2⟩,hk⟩ | ⟨e1,hk⟩
  ·left;rw [e1];rfl
  ·right
   have e2:g=wd.heap.size+1:=e1
   show w.heap.size<=g
   have:=HWD.out.size
   omega)
 have HNG:=qh (show g≠a.pb/\g≠a.mb from by
  rcases HG5.out g rfl with h | h
  ·exact ⟨fun e=>HPB.out (e▸h),fun e=>HMB.out (e▸h)⟩
  ·have h1:=zvKu HB.out
   have h2:=H.out.map.lt
   exact ⟨by omega,by omega⟩)
 have HB5:=qh (HK5.out.heap HB.out (fun e=>HPB.out e))
 clear ho5 hg5
 go_wp2_with (refine z2q7 rfl 138 _ _ rfl a.pb 5 (.slice (some ⟨g,0,none⟩) (rn+1) cap) (poolC a P) rfl rfl HB5.out (by kernel_rfl) (by show 5 < 8;decide) rfl ?_)
 intro w6 hb6 hk6
 have HB6:=qh hb6
 have HK6:=qh hk6
 have cp6:w6.cell? ⟨a.pb,5,none⟩=some (.slice (some ⟨g,0,none⟩) (rn+1) cap):=zcjX hb6 rfl
 clear hb6 hk6
 go_wp2
 refine HPO.out _ (.slice (some ⟨g,0,none⟩) (rn+1) cap) ⟨H.out,?_,HB6.out,?_,?_,?_⟩
 ·exact (HK5.out.mono (fun _ _ h=>.inr (.inr h))).trans HK6.out (fun x _ hx=>.inl hx)
 ·rcases HG5.out g rfl with h | h
  ·exact .inl h.symm
  ·exact .inr (fun x hx=>by cases hx;exact h)
 ·have e:(ptrs a.xs ++ [Value.pointer none]).length=rn+1:=by rw [HN.out];simp [ptrs]
  rw [e]
  exact zh0U HO5.out HK6.out (fun x hx e=>by cases hx;exact HNG.out.1 e)
 ·exact (H.out.map.kept HK5.out (fun e=>HMB.out e)).kept HK6.out (fun e=>H.out.tpb.nem H.out.map e.symm)
end
end Go.Proofs.YtfgagakepmigbaaGreat
