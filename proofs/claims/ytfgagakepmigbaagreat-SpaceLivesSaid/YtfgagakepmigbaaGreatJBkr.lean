/-
  No statement is proved here.
-/
import Derived.Test.YtfgagakepmigbaaGreatJBkp
namespace Go.Proofs.YtfgagakepmigbaaGreat
open Go.RowKit
theorem zKts (D:DevM):∀ i,bestM D i=zM\/(bestM D i).may
 | 0=>.inl rfl
 | i+1=>by
  unfold bestM
  split
  ·rename_i h
   refine .inr ?_
   have h1:=h.1
   unfold zhQE at h1 ⊢
   split
   ·rename_i h2;rw [if_pos h2] at h1;cases h1
   ·rename_i h2
    rcases Classical.em ((decM (D.latest (i:Int))).may) with h3 | h3
    ·exact h3
    ·exact absurd (.inl h3) h2
  ·exact zKts D i
theorem z1cs (D:DevM) (h:(readMas D).2=0):(readMas D).1.may:=by
 unfold readMas at h ⊢
 split
 ·rename_i h1;rw [if_pos h1] at h;cases h
 ·rename_i h1
  rw [if_neg h1] at h
  split
  ·rename_i h2;rw [if_pos h2] at h;cases h
  ·rename_i h2
   rcases zKts D 2 with e | e
   ·exact absurd e h2
   ·exact e
def z0Vu (L:LogM) (D:DevM):DevM×Int:=
 if (readMas D).2≠0 then (D,(readMas D).2) else
 if 2305843009213693952 < (readMas D).1.seq+1 then (D,5) else
 zgqU D ⟨(readMas D).1.seq+1,(readMas D).1.turn,L.fin⟩
section
variable {w w' w1:World} {x x':BAdr} {b b':BkM} {P P':PoolM} {L L':LogM} {D D':DevM}
theorem BookS.dev (h:BookS w x b P L D) (hk:Kept (fun z=>z=x.a.p\/z=x.a.ms\/z=x.a.mo) w w') (hd:DevAt w' x.a.p x.a.ms x.a.mo D'):BookS w' x b P L D'/\BTo w x w' x:=by
 have ht:=h.s.turn (P:=P) (w':=w') (D':=D') hk (fun z hz=>by rcases hz with hz | hz | hz;exact .inr (.inl hz);exact .inr (.inr (.inl hz));exact .inr (.inr (.inr (.inl hz)))) (h.s.log.dev2 hk (fun z hz=>hz) hd) (.inl rfl) (.inl rfl)
 exact h.pool (a':=x.a) ⟨.refl _,ht.2.1,ht.2.2⟩ ht.1
set_option maxRecDepth 100000 in
set_option maxHeartbeats 1600000 in
theorem zfwj (h:BookS w x b P L D) (hn:2<=D.n) (gb:Nat) (hgb:w.heap[gb]?=some (.cells #[ptrV x.bk] 24 (0,0))) :
  Calls Tryz.prog 82 #[.pointer (some ⟨gb,0,none⟩)] w fun e w'=>e=.returned (.int .i64 (z0Vu L D).2)/\BTo w x w' x/\BookS w' x b P L (z0Vu L D).1:=by
 obtain ⟨V,hV⟩:∃ V,V=z0Vu L D:=⟨_,rfl⟩
 have HV:=qh hV
 obtain ⟨POST,hPOST⟩:∃ POST:Ending->World->Prop,POST=(fun e w'=>e=.returned (.int .i64 V.2)/\BTo w x w' x/\BookS w' x b P L V.1):=⟨_,rfl⟩
 have HPO:=qh (show ∀ n D1 w',V=(D1,n)->BTo w x w' x->BookS w' x b P L D1->POST (.returned (.int .i64 n)) w' from fun n D1 w' h1 h2 h3=>by rw [hPOST,h1];exact ⟨rfl,h2,h3⟩)
 rw [<- hV,<- hPOST]
 have H:=qh h
 have HRM:=qh (zH0r h.s.log.dev hn)
 have HMY:=qh (z1cs D)
 have HGB:=qh hgb
 obtain ⟨c0,c1,-⟩:=h.cells
 have d0:w.cell? ⟨gb,0,none⟩=some (.pointer (some ⟨x.bk,0,none⟩)):=zcjX hgb rfl
 obtain ⟨R,hR⟩:∃ R,R=readMas D:=⟨_,rfl⟩
 rw [<- hR] at HRM HMY
 have HVV:=qh (show V=if R.2≠0 then (D,R.2) else if 2305843009213693952 < R.1.seq+1 then (D,5) else zgqU D ⟨R.1.seq+1,R.1.turn,L.fin⟩ from by rw [HV.out,hR];rfl)
 clear hR hV hPOST HV h hgb
 obtain ⟨⟨rs,rt,ro⟩,re⟩:=R
 dsimp only at HRM HMY HVV
 go_enter Tryz.func82,Tryz.ntmps82
 go_wp2_with fail
 refine HRM.out.mono ?_
 rintro e w1 ⟨rfl,hk1⟩
 have HK1:=qh hk1
 clear hk1 HRM c0 c1 d0
 go_wp2_with (refine zNko rfl 103 rfl (masC zM) z1iB ?_)
 intro gm w2 l2 m2 hb2 hk2
 refine zxQF rfl 103 _ _ rfl gm (masC ⟨rs,rt,ro⟩) (masC zM) rfl rfl hb2 zapW rfl (z6IM _) ?_
 intro w3 hb3 hk3
 have HK3:=qh (HK1.out.trans0 (hk2.new hk3 (fun z hz=>by subst hz;exact l2)))
 have HM3:=qh (show w3.heap[gm]?=some (.cells (masC ⟨rs,rt,ro⟩) 103 (0,0)) from hb3)
 have hgw:w.heap.size<=gm:=by have:=HK1.out.size;omega
 clear hb2 hk2 hb3 hk3
 by_cases he:re=0
 ·subst he
  have hmy:=HMY.out rfl
  have HMM:=qh hmy
  obtain ⟨y1,y2,y3,y4,y5,y6⟩:=hmy
  dsimp only at y1 y2
  obtain ⟨r1,hr1⟩:∃ r1,r1=rs+1:=⟨_,rfl⟩
  have e1:wrap64 (rs+1)=r1:=by rw [hr1];unfold wrap64;omega
  rw [<- hr1] at HVV
  clear hr1
  have g0:w3.cell? ⟨gm,0,none⟩=some (.int .i64 rs):=zcjX HM3.out rfl
  clear y1 y2 y3 y4 y5 y6
  go_wp2_with (refine z2q7 rfl _ _ _ rfl gm 0 (.int .i64 r1) (masC ⟨rs,rt,ro⟩) rfl (by first | rfl | (show Value.int _ (wrap64 (rs+1))=_;rw [e1]) | (show Value.int _ (IntKind.i64.wrap (rs+1))=_;rw [show IntKind.i64.wrap (rs+1)=wrap64 (rs+1) from rfl,e1])) HM3.out (by kernel_rfl) (by show 0 < 3;decide) rfl ?_)
  intro w4 hb4 hk4
  have HM4:=qh (show w4.heap[gm]?=some (.cells (masC ⟨r1,rt,ro⟩) 103 (0,0)) from hb4)
  have HK4:=qh (HK3.out.new hk4 (fun z hz=>by subst hz;exact hgw))
  have g4:w4.cell? ⟨gm,0,none⟩=some (.int .i64 (r1)):=zcjX hb4 rfl
  clear hb4 hk4 g0 HM3 HK3
  by_cases hbig:r1 > 2305843009213693952
  ·have HE:=qh (show V=(D,5) from by rw [HVV.out,if_neg (fun h=>h rfl),if_pos hbig])
   go_wp2
   exact HPO.out 5 _ _ HE.out ((BTo.refl w x).keep0 HK4.out) (H.out.keep0 HK4.out)
  ·have HE:=qh (show V=zgqU D ⟨r1,rt,L.fin⟩ from by rw [HVV.out,if_neg (fun h=>h rfl),if_neg (by omega)])
   have HS4:=qh (H.out.keep0 HK4.out)
   obtain ⟨c0,c1,-⟩:=HS4.out.cells
   have d0:w4.cell? ⟨gb,0,none⟩=some (.pointer (some ⟨x.bk,0,none⟩)):=zcjX (HK4.out.heap HGB.out id) rfl
   have HEN:=qh (show Calls Tryz.prog 43 #[.pointer (some ⟨x.a.q,0,none⟩)] w4 fun e w'=>e=.returned (.int .i64 L.fin)/\w4=w' from z4JP w4 x.a.q x.a.p x.a.lv x.a.tv L HS4.out.s.log.hq)
   obtain ⟨lf,hlf⟩:∃ lf,lf=L.fin:=⟨_,rfl⟩
   rw [<- hlf] at HEN HE
   clear hlf
   go_wp2_with fail
   refine HEN.out.mono ?_
   rintro e wx ⟨rfl,rfl⟩
   go_wp2_with (refine z2q7 rfl _ _ _ rfl gm 2 (.int .i64 lf) (masC ⟨r1,rt,ro⟩) rfl rfl HM4.out (by kernel_rfl) (by show 2 < 3;decide) rfl ?_)
   intro w5 hb5 hk5
   have HM5:=qh (show w5.heap[gm]?=some (.cells (masC ⟨r1,rt,lf⟩) 103 (0,0)) from hb5)
   have HK5:=qh (HK4.out.new hk5 (fun z hz=>by subst hz;exact hgw))
   clear hb5 hk5 HM4 HK4 HS4 c0 c1 d0 g4 HEN
   have HS5:=qh (H.out.keep0 HK5.out)
   have HS0:=qh (show (w5.drew).heap[gb]?=some (.cells #[.pointer (some ⟨x.bk,0,none⟩)] 24 (0,0))/\(w5.drew).heap[x.bk]?=some (.cells (bookC x b) 30 (0,0))/\(w5.drew).heap[gm]?=some (.cells (masC ⟨r1,rt,lf⟩) 103 (0,0)) from ⟨HK5.out.heap HGB.out id,HS5.out.hb,HM5.out⟩)
   have HC:=qh (fun (w':World) (h:w'.heap[gb]?=some (.cells #[.pointer (some ⟨x.bk,0,none⟩)] 24 (0,0))/\w'.heap[x.bk]?=some (.cells (bookC x b) 30 (0,0))/\w'.heap[gm]?=some (.cells (masC ⟨r1,rt,lf⟩) 103 (0,0)))=>show w'.cell? ⟨gb,0,none⟩=some (.pointer (some ⟨x.bk,0,none⟩))/\w'.cell? ⟨x.bk,0,none⟩=some (.pointer (some ⟨x.a.p,0,none⟩))/\w'.cell? ⟨gm,0,none⟩=some (.int .i64 (r1))/\w'.cell? ⟨gm,1,none⟩=some (.int .i64 rt)/\w'.cell? ⟨gm,2,none⟩=some (.int .i64 lf) from ⟨zcjX h.1 rfl,zcjX h.2.1 rfl,zcjX h.2.2 rfl,zcjX h.2.2 rfl,zcjX h.2.2 rfl⟩)
   have HWR:=qh (zjxy (w:=w5.drew) ((HS5.out.keep0 ((Kept.refl (fun _=>False) w5).drew)).s.log.dev) ⟨r1,rt,lf⟩)
   obtain ⟨D5,e5⟩:∃ D5:DevM×Int,D5=zgqU D ⟨r1,rt,lf⟩:=⟨_,rfl⟩
   rw [<- e5] at HWR HE
   obtain ⟨D5,n5⟩:=D5
   dsimp only at HWR
   clear e5
   go_wp2_with fail
   refine znCh 6 (fun w'=>w'.heap[gb]?=some (.cells #[.pointer (some ⟨x.bk,0,none⟩)] 24 (0,0))/\w'.heap[x.bk]?=some (.cells (bookC x b) 30 (0,0))/\w'.heap[gm]?=some (.cells (masC ⟨r1,rt,lf⟩) 103 (0,0))) (by kernel_rfl) HS0.out (fun hH=>?_)
   simp only [List.length_cons,List.length_nil,List.replicate]
   refine tK 0 ?_ (fun w' hw'=>?_) hH ?_
   rotate_left
   ·obtain ⟨k0,k1,k2,k3,k4⟩:=HC.out w' hw'
    go_simp<;>with_reducible rfl
   simp only [Act.put,oZa,oZb,oZc]
   refine tK 1 ?_ (fun w' hw'=>?_) hH ?_
   rotate_left
   ·obtain ⟨k0,k1,k2,k3,k4⟩:=HC.out w' hw'
    go_simp<;>with_reducible rfl
   simp only [Act.put,oZa,oZb,oZc]
   refine tK 2 ?_ (fun w' hw'=>?_) hH ?_
   rotate_left
   ·obtain ⟨k0,k1,k2,k3,k4⟩:=HC.out w' hw'
    go_simp<;>with_reducible rfl
   simp only [Act.put,oZa,oZb,oZc]
   refine tK 3 ?_ (fun w' hw'=>?_) hH ?_
   rotate_left
   ·obtain ⟨k0,k1,k2,k3,k4⟩:=HC.out w' hw'
    go_simp<;>with_reducible rfl
   simp only [Act.put,oZa,oZb,oZc]
   refine tK 4 ?_ (fun w' hw'=>?_) hH ?_
   rotate_left
   ·obtain ⟨k0,k1,k2,k3,k4⟩:=HC.out w' hw'
    go_simp<;>with_reducible rfl
   simp only [Act.put,oZa,oZb,oZc]
   refine stepL 5 rfl (by kernel_rfl) (fun K hK=>?_)
   go_simp
   refine HWR.out.mono ?_
   rintro e w6 ⟨rfl,hd6,hk6⟩
   have hdv:=(HS5.out.keep0 ((Kept.refl (fun _=>False) w5).drew)).dev hk6 hd6
   have HDV:=qh hdv
   have HS6:=qh (show w6.heap[gb]?=some (.cells #[.pointer (some ⟨x.bk,0,none⟩)] 24 (0,0))/\w6.heap[x.bk]?=some (.cells (bookC x b) 30 (0,0))/\w6.heap[gm]?=some (.cells (masC ⟨r1,rt,lf⟩) 103 (0,0)) from
    ⟨hdv.2.k.heap HS0.out.1 (HS5.out.notT (y:=gb) ⟨_,_,HS0.out.1⟩ (by decide) (by decide) (by decide) (by decide) (by decide) (by decide) (by decide) (by decide)),hdv.1.hb,hdv.2.k.heap HS0.out.2.2 (HS5.out.notT (y:=gm) ⟨_,_,HS0.out.2.2⟩ (by decide) (by decide) (by decide) (by decide) (by decide) (by decide) (by decide) (by decide))⟩)
   clear hd6 hk6 hdv HWR
   go_simp
   refine hK.out _ _ (fun _=>HS6.out) (fun _=>?_)
   simp only [oZa,oZb,oZc]
   clear hK K hH
   refine stepL 6 rfl (by kernel_rfl) (fun K hK=>?_)
   go_simp
   refine hK.out _ _ (fun h=>absurd rfl h) (fun _=>?_)
   simp only [oZa,oZb,oZc]
   clear hK K
   refine doneL (by kernel_rfl) ?_ _
   go_wp2
   exact HPO.out n5 D5 _ HE.out ((BTo.refl w x).keep0 HK5.out.drew |>.trans HDV.out.2) HDV.out.1
 ·have hb:(re != 0)=true:=by rw [bne_iff_ne];exact he
  have HE:=qh (show V=(D,re) from by rw [HVV.out,if_pos he])
  clear he
  go_wp2
  exact HPO.out re _ _ HE.out ((BTo.refl w x).keep0 HK3.out) (H.out.keep0 HK3.out)
end
def zmrj (b:BkM) (P:PoolM) (L:LogM) (D:DevM):BkM×PoolM×LogM×DevM×Int:=
 if b.inT=true then (b,P,L,D,7) else
 if (L.force D).2.2≠0 then (b,P,(L.force D).1,(L.force D).2.1,(L.force D).2.2) else
 if (flushM P (L.force D).1 (L.force D).2.1).2.2.2≠0 then (b,flushM P (L.force D).1 (L.force D).2.1) else
 if (z0Vu (flushM P (L.force D).1 (L.force D).2.1).2.1 (flushM P (L.force D).1 (L.force D).2.1).2.2.1).2≠0 then
  (b,(flushM P (L.force D).1 (L.force D).2.1).1,(flushM P (L.force D).1 (L.force D).2.1).2.1,(z0Vu (flushM P (L.force D).1 (L.force D).2.1).2.1 (flushM P (L.force D).1 (L.force D).2.1).2.2.1).1,(z0Vu (flushM P (L.force D).1 (L.force D).2.1).2.1 (flushM P (L.force D).1 (L.force D).2.1).2.2.1).2) else
 (b,(flushM P (L.force D).1 (L.force D).2.1).1,((flushM P (L.force D).1 (L.force D).2.1).2.1.trim (flushM P (L.force D).1 (L.force D).2.1).2.1.fin).1,(z0Vu (flushM P (L.force D).1 (L.force D).2.1).2.1 (flushM P (L.force D).1 (L.force D).2.1).2.2.1).1,((flushM P (L.force D).1 (L.force D).2.1).2.1.trim (flushM P (L.force D).1 (L.force D).2.1).2.1.fin).2)
section
variable {w w' w1:World} {x x':BAdr} {b b':BkM} {P P':PoolM} {L L':LogM} {D D':DevM}
set_option maxRecDepth 100000 in
set_option maxHeartbeats 1600000 in
theorem zBzm (h:BookS w x b P L D) (hg:LogG L) (gb:Nat) (hgb:w.heap[gb]?=some (.cells #[ptrV x.bk] 24 (0,0))) :
  Calls Tryz.prog 83 #[.pointer (some ⟨gb,0,none⟩)] w fun e w'=>e=.returned (.int .i64 (L.trim L.fin).2)/\∃ x',BTo w x w' x'/\BookS w' x' b P (L.trim L.fin).1 D:=by
 have H:=qh h
 have HG:=qh hg
 have HS0:=qh (show (w.drew).heap[gb]?=some (.cells #[.pointer (some ⟨x.bk,0,none⟩)] 24 (0,0))/\(w.drew).heap[x.bk]?=some (.cells (bookC x b) 30 (0,0)) from ⟨hgb,h.hb⟩)
 have HC:=qh (fun (w':World) (h:w'.heap[gb]?=some (.cells #[.pointer (some ⟨x.bk,0,none⟩)] 24 (0,0))/\w'.heap[x.bk]?=some (.cells (bookC x b) 30 (0,0)))=>show w'.cell? ⟨gb,0,none⟩=some (.pointer (some ⟨x.bk,0,none⟩))/\w'.cell? ⟨x.bk,1,none⟩=some (.pointer (some ⟨x.a.q,0,none⟩)) from ⟨zcjX h.1 rfl,zcjX h.2 rfl⟩)
 have HEN:=qh (show Calls Tryz.prog 43 #[.pointer (some ⟨x.a.q,0,none⟩)] w.drew fun e w'=>e=.returned (.int .i64 L.fin)/\w.drew=w' from z4JP w.drew x.a.q x.a.p x.a.lv x.a.tv L h.s.log.hq)
 have HTR:=qh ((h.keep0 ((Kept.refl (fun _=>False) w).drew)).s.trim hg x.a.q rfl L.fin)
 obtain ⟨lf,hlf⟩:∃ lf,lf=L.fin:=⟨_,rfl⟩
 rw [<- hlf] at HEN HTR ⊢
 obtain ⟨T,hT⟩:∃ T,T=L.trim lf:=⟨_,rfl⟩
 rw [<- hT] at HTR ⊢
 obtain ⟨L1,t⟩:=T
 dsimp only at HTR ⊢
 clear h hg hgb hlf hT
 go_enter Tryz.func83,Tryz.ntmps83
 go_wp2_with fail
 refine znCh 10 (fun w'=>w'.heap[gb]?=some (.cells #[.pointer (some ⟨x.bk,0,none⟩)] 24 (0,0))/\w'.heap[x.bk]?=some (.cells (bookC x b) 30 (0,0))) (by kernel_rfl) HS0.out (fun hH=>?_)
 simp only [List.length_cons,List.length_nil,List.replicate]
 refine tK 0 ?_ (fun w' hw'=>?_) hH ?_
 rotate_left
 ·obtain ⟨k0,k1⟩:=HC.out w' hw'
  go_simp<;>with_reducible rfl
 simp only [Act.put,oZa,oZb,oZc]
 refine tK 1 ?_ (fun w' hw'=>?_) hH ?_
 rotate_left
 ·obtain ⟨k0,k1⟩:=HC.out w' hw'
  go_simp<;>with_reducible rfl
 simp only [Act.put,oZa,oZb,oZc]
 refine tK 2 ?_ (fun w' hw'=>?_) hH ?_
 rotate_left
 ·obtain ⟨k0,k1⟩:=HC.out w' hw'
  go_simp<;>with_reducible rfl
 simp only [Act.put,oZa,oZb,oZc]
 refine tK 3 ?_ (fun w' hw'=>?_) hH ?_
 rotate_left
 ·obtain ⟨k0,k1⟩:=HC.out w' hw'
  go_simp<;>with_reducible rfl
 simp only [Act.put,oZa,oZb,oZc]
 refine tK 4 ?_ (fun w' hw'=>?_) hH ?_
 rotate_left
 ·obtain ⟨k0,k1⟩:=HC.out w' hw'
  go_simp<;>with_reducible rfl
 simp only [Act.put,oZa,oZb,oZc]
 refine tK 5 ?_ (fun w' hw'=>?_) hH ?_
 rotate_left
 ·obtain ⟨k0,k1⟩:=HC.out w' hw'
  go_simp<;>with_reducible rfl
 simp only [Act.put,oZa,oZb,oZc]
 refine tK 6 ?_ (fun w' hw'=>?_) hH ?_
 rotate_left
 ·obtain ⟨k0,k1⟩:=HC.out w' hw'
  go_simp<;>with_reducible rfl
 simp only [Act.put,oZa,oZb,oZc]
 refine tK 7 ?_ (fun w' hw'=>?_) hH ?_
 rotate_left
 ·obtain ⟨k0,k1⟩:=HC.out w' hw'
  go_simp<;>with_reducible rfl
 simp only [Act.put,oZa,oZb,oZc]
 refine stepL 8 rfl (by kernel_rfl) (fun K hK=>?_)
 go_simp
 refine HEN.out.mono ?_
 rintro e wx ⟨rfl,hwx⟩
 subst hwx
 go_simp
 refine hK.out _ _ (fun _=>HS0.out) (fun _=>?_)
 simp only [oZa,oZb,oZc]
 clear hK K hH
 refine stepL 9 rfl (by kernel_rfl) (fun K hK=>?_)
 go_simp
 refine HTR.out.mono ?_
 rintro e w6 ⟨rfl,a1,s1,t1⟩
 have hbp:=(H.out.keep0 ((Kept.refl (fun _=>False) w).drew)).pool t1 s1
 have HBP:=qh hbp.1
 have HBT:=qh ((BTo.refl w x).keep0 ((Kept.refl (fun _=>False) w).drew) |>.trans hbp.2)
 have HS6:=qh (show w6.heap[gb]?=some (.cells #[.pointer (some ⟨x.bk,0,none⟩)] 24 (0,0))/\w6.heap[x.bk]?=some (.cells (bookC x b) 30 (0,0)) from
  ⟨hbp.2.k.heap HS0.out.1 (H.out.notT (y:=gb) ⟨_,_,HS0.out.1⟩ (by decide) (by decide) (by decide) (by decide) (by decide) (by decide) (by decide) (by decide)),t1.k.heap HS0.out.2 H.out.nbk⟩)
 clear s1 t1 hbp HTR
 go_simp
 refine hK.out _ _ (fun _=>HS6.out) (fun _=>?_)
 simp only [oZa,oZb,oZc]
 clear hK K
 refine stepL 10 rfl (by kernel_rfl) (fun K hK=>?_)
 go_simp
 refine hK.out _ _ (fun h=>absurd rfl h) (fun _=>?_)
 simp only [oZa,oZb,oZc]
 clear hK K
 refine doneL (by kernel_rfl) ?_ _
 go_wp2
 go_ret
 exact ⟨rfl,_,HBT.out,HBP.out⟩
theorem each4 (w:World) (g:Nat) (x y z u:FnV) (R:Int->World->Prop) (hg:w.heap[g]?=some (.cells #[x.v,y.v,z.v,u.v] 41 (0,0))) (h:z78b (fun w'=>w'.heap[g]?=some (.cells #[x.v,y.v,z.v,u.v] 41 (0,0))) [x,y,z,u] R w) :
  Calls Tryz.prog 44 #[.slice (some ⟨g,0,none⟩) 4 4] w fun e w'=>∃ n,e=.returned (.int .i64 n)/\R n w':=zE6R w g [x,y,z,u] R hg (by simp) h
set_option maxRecDepth 100000 in
set_option maxHeartbeats 1600000 in
theorem zY7V (h:BookS w x b P L D) (hg:LogG L) (hn:PoolN P) (hg2:LogG (flushM P (L.force D).1 (L.force D).2.1).2.1) (hn2:2<=(flushM P (L.force D).1 (L.force D).2.1).2.2.1.n) :
  Calls Tryz.prog 42 #[ptrV x.bk] w (BPost w x (zmrj b P L D)):=by
 obtain ⟨V,hV⟩:∃ V,V=zmrj b P L D:=⟨_,rfl⟩
 obtain ⟨POST,hPOST⟩:∃ POST,POST=BPost w x V:=⟨_,rfl⟩
 rw [<- hV,<- hPOST]
 have HPO:=qh (show ∀ n w' x' b1 P1 L1 D1,V=(b1,P1,L1,D1,n)->BTo w x w' x'->BookS w' x' b1 P1 L1 D1->POST (.returned (.int .i64 n)) w' from fun n w' x' b1 P1 L1 D1 h1 h2 h3=>by rw [hPOST,h1];exact ⟨rfl,x',h2,h3⟩)
 have HV:=qh hV
 have H:=qh h
 have HARG:=qh (⟨hg,hn,hg2,hn2⟩:LogG L/\PoolN P/\LogG (flushM P (L.force D).1 (L.force D).2.1).2.1/\2<=(flushM P (L.force D).1 (L.force D).2.1).2.2.1.n)
 have hmf:∀ (fn:Fn) (first cap:Array Value) (w:World),(Instr.makeFunc fn first cap).run Tryz.prog w=.ok (.func fn first cap) w:=fun _ _ _ _=>rfl
 obtain ⟨t,ht⟩:∃ t,t=b.inT:=⟨_,rfl⟩
 have HT:=qh ht
 clear h hg hn hg2 hn2 hV hPOST ht
 unfold ptrV
 go_enter Tryz.func42,Tryz.ntmps42
 go_wp2_with (refine znBH rfl 24 _ rfl (.pointer (some ⟨x.bk,0,none⟩)) rfl ?_)
 intro gb wa l1 m1 hb1 hk1
 have HB:=qh (show wa.heap[gb]?=some (.cells #[ptrV x.bk] 24 (0,0)) from hb1)
 have HK1:=qh hk1
 have HS1:=qh (H.out.keep0 hk1)
 have HTH:=qh (z4at HS1.out)
 unfold ptrV at HTH
 obtain ⟨-,c1,c2,c3,-⟩:=HS1.out.cells
 rw [<- HT.out] at c3
 have d0:wa.cell? ⟨gb,0,none⟩=some (.pointer (some ⟨x.bk,0,none⟩)):=zcjX hb1 rfl
 clear hb1 hk1
 go_wp2_with fail
 refine HTH.out.mono ?_
 rintro e wx ⟨rfl,rfl⟩
 cases t
 ·have HVV:=qh (show V=if (L.force D).2.2≠0 then (b,P,(L.force D).1,(L.force D).2.1,(L.force D).2.2) else
   if (flushM P (L.force D).1 (L.force D).2.1).2.2.2≠0 then (b,flushM P (L.force D).1 (L.force D).2.1) else
   if (z0Vu (flushM P (L.force D).1 (L.force D).2.1).2.1 (flushM P (L.force D).1 (L.force D).2.1).2.2.1).2≠0 then
    (b,(flushM P (L.force D).1 (L.force D).2.1).1,(flushM P (L.force D).1 (L.force D).2.1).2.1,(z0Vu (flushM P (L.force D).1 (L.force D).2.1).2.1 (flushM P (L.force D).1 (L.force D).2.1).2.2.1).1,(z0Vu (flushM P (L.force D).1 (L.force D).2.1).2.1 (flushM P (L.force D).1 (L.force D).2.1).2.2.1).2) else
   (b,(flushM P (L.force D).1 (L.force D).2.1).1,((flushM P (L.force D).1 (L.force D).2.1).2.1.trim (flushM P (L.force D).1 (L.force D).2.1).2.1.fin).1,(z0Vu (flushM P (L.force D).1 (L.force D).2.1).2.1 (flushM P (L.force D).1 (L.force D).2.1).2.2.1).1,((flushM P (L.force D).1 (L.force D).2.1).2.1.trim (flushM P (L.force D).1 (L.force D).2.1).2.1.fin).2) from by
   rw [HV.out];unfold zmrj;rw [if_neg (by rw [<- HT.out];decide)])
  obtain ⟨F,hF⟩:∃ F:Array Value,F=#[FnV.v ⟨47,#[.pointer (some ⟨x.a.q,0,none⟩)],#[]⟩,FnV.v ⟨81,#[.pointer (some ⟨x.a.pb,0,none⟩)],#[]⟩,FnV.v ⟨82,#[],#[.pointer (some ⟨gb,0,none⟩)]⟩,FnV.v ⟨83,#[],#[.pointer (some ⟨gb,0,none⟩)]⟩]:=⟨_,rfl⟩
  have HEACH:=qh (show ∀ (wc:World) (gf:Nat),Kept (fun _=>False) wa wc->wc.heap[gf]?=some (.cells F 41 (0,0))->Calls Tryz.prog 44 #[.slice (some ⟨gf,0,none⟩) 4 4] wc fun e w'=>∃ n,e=.returned (.int .i64 n)/\POST (.returned (.int .i64 n)) w'/\∃ x' b' P' L' D',BTo wc x w' x'/\BookS w' x' b' P' L' D' from fun wc gf hkc hf=>by
   obtain ⟨hg,hn,hg2,hn2⟩:=HARG.out
   have hs:=HS1.out.keep0 hkc
   have hb:=hkc.heap HB.out id
   have hta:BTo w x wc x:=(BTo.refl w x).keep0 (HK1.out.trans0 hkc)
   have far:∀ (wz:World) (y:Nat) (cs:Array Value) (t:TypeId) (b:BkM) (P:PoolM) (L:LogM) (D:DevM) (xz:BAdr),BookS wz xz b P L D->wz.heap[y]?=some (.cells cs t (0,0))->(t=24\/t=41)->¬ xz.K y:=fun wz y cs t b P L D xz hz hy ht=>by
    rcases ht with rfl | rfl<;>exact hz.notT ⟨_,_,hy⟩ (by decide) (by decide) (by decide) (by decide) (by decide) (by decide) (by decide) (by decide)
   refine each4 wc gf _ _ _ _ _ (by rw [<- hF];exact hf) ⟨fun wz=>by kernel_rfl,(hs.s.forceA hg x.a.q rfl).mono ?_⟩
   rintro e w1 ⟨rfl,a1,s1,t1⟩
   obtain ⟨hs1,ht1⟩:=hs.pool t1 s1
   have hf1:w1.heap[gf]?=some (.cells F 41 (0,0)):=ht1.k.heap hf (far _ _ _ _ _ _ _ _ _ hs hf (.inr rfl))
   have hb1:w1.heap[gb]?=some (.cells #[ptrV x.bk] 24 (0,0)):=ht1.k.heap hb (far _ _ _ _ _ _ _ _ _ hs hb (.inl rfl))
   refine ⟨_,rfl,by rw [<- hF];exact hf1,fun hne=>⟨HPO.out _ _ _ _ _ _ _ (by rw [HVV.out,if_pos hne]) (hta.trans ht1) hs1,_,_,_,_,_,ht1,hs1⟩,fun h0=>⟨fun wz=>by kernel_rfl,?_⟩⟩
   have hfl:=zxnx hs1.s (hg.force D) hn
   rw [show ({ x with a:=a1 }:BAdr).a.pb=x.a.pb from t1.fix.pb] at hfl
   refine hfl.mono ?_
   rintro e w2 ⟨rfl,a2,f2,s2,k2,g2⟩
   obtain ⟨hs2,ht2⟩:=hs1.pool ⟨f2,k2,g2⟩ s2
   have hf2:=ht2.k.heap hf1 (far _ _ _ _ _ _ _ _ _ hs1 hf1 (.inr rfl))
   have hb2:=ht2.k.heap hb1 (far _ _ _ _ _ _ _ _ _ hs1 hb1 (.inl rfl))
   refine ⟨_,rfl,by rw [<- hF];exact hf2,fun hne=>⟨HPO.out _ _ _ _ _ _ _ (by rw [HVV.out,if_neg (fun h=>h h0),if_pos hne]) ((hta.trans ht1).trans ht2) hs2,_,_,_,_,_,ht1.trans ht2,hs2⟩,fun h1=>⟨fun wz=>by kernel_rfl,?_⟩⟩
   refine (zfwj hs2 hn2 gb hb2).mono ?_
   rintro e w3 ⟨rfl,ht3,hs3⟩
   have hf3:=ht3.k.heap hf2 (far _ _ _ _ _ _ _ _ _ hs2 hf2 (.inr rfl))
   have hb3:=ht3.k.heap hb2 (far _ _ _ _ _ _ _ _ _ hs2 hb2 (.inl rfl))
   refine ⟨_,rfl,by rw [<- hF];exact hf3,fun hne=>⟨HPO.out _ _ _ _ _ _ _ (by rw [HVV.out,if_neg (fun h=>h h0),if_neg (fun h=>h h1),if_pos hne]) (((hta.trans ht1).trans ht2).trans ht3) hs3,_,_,_,_,_,(ht1.trans ht2).trans ht3,hs3⟩,fun h2=>⟨fun wz=>by kernel_rfl,?_⟩⟩
   refine (zBzm hs3 hg2 gb hb3).mono ?_
   rintro e w4 ⟨rfl,x4,ht4,hs4⟩
   have hf4:=ht4.k.heap hf3 (far _ _ _ _ _ _ _ _ _ hs3 hf3 (.inr rfl))
   have hfin:=HPO.out _ w4 x4 _ _ _ _ (by rw [HVV.out,if_neg (fun h=>h h0),if_neg (fun h=>h h1),if_neg (fun h=>h h2)]) ((((hta.trans ht1).trans ht2).trans ht3).trans ht4) hs4
   have hmore:∃ x' b' P' L' D',BTo wc x w4 x'/\BookS w4 x' b' P' L' D':=⟨_,_,_,_,_,((ht1.trans ht2).trans ht3).trans ht4,hs4⟩
   exact ⟨_,rfl,by rw [<- hF];exact hf4,fun _=>⟨hfin,hmore⟩,fun h3=>by rw [h3] at hfin;exact ⟨hfin,hmore⟩⟩)
  have HF:=qh hF
  clear hF HVV HV HARG HPO
  have HS0:=qh (show (wa.drew).heap[gb]?=some (.cells #[.pointer (some ⟨x.bk,0,none⟩)] 24 (0,0))/\(wa.drew).cell? ⟨x.bk,1,none⟩=some (.pointer (some ⟨x.a.q,0,none⟩))/\(wa.drew).cell? ⟨x.bk,2,none⟩=some (.pointer (some ⟨x.a.pb,0,none⟩)) from ⟨HB.out,c1,c2⟩)
  have HC:=qh (fun (w':World) (h:w'.heap[gb]?=some (.cells #[.pointer (some ⟨x.bk,0,none⟩)] 24 (0,0))/\w'.cell? ⟨x.bk,1,none⟩=some (.pointer (some ⟨x.a.q,0,none⟩))/\w'.cell? ⟨x.bk,2,none⟩=some (.pointer (some ⟨x.a.pb,0,none⟩)))=>show w'.cell? ⟨gb,0,none⟩=some (.pointer (some ⟨x.bk,0,none⟩))/\w'.cell? ⟨x.bk,1,none⟩=some (.pointer (some ⟨x.a.q,0,none⟩))/\w'.cell? ⟨x.bk,2,none⟩=some (.pointer (some ⟨x.a.pb,0,none⟩)) from ⟨zcjX h.1 rfl,h.2.1,h.2.2⟩)
  have HSA:=qh (fun (o:Obj)=>show ((wa.alloc o).drew).heap[gb]?=some (.cells #[.pointer (some ⟨x.bk,0,none⟩)] 24 (0,0))/\((wa.alloc o).drew).cell? ⟨x.bk,1,none⟩=some (.pointer (some ⟨x.a.q,0,none⟩))/\((wa.alloc o).drew).cell? ⟨x.bk,2,none⟩=some (.pointer (some ⟨x.a.pb,0,none⟩)) from by
   have hk:=((Kept.refl (fun _=>False) wa).alloc o).drew
   obtain ⟨-,q1,q2,-⟩:=(HS1.out.keep0 hk).cells
   exact ⟨hk.heap HB.out id,q1,q2⟩)
  go_wp2_with fail
  refine znCh 14 (fun w'=>w'.heap[gb]?=some (.cells #[.pointer (some ⟨x.bk,0,none⟩)] 24 (0,0))/\w'.cell? ⟨x.bk,1,none⟩=some (.pointer (some ⟨x.a.q,0,none⟩))/\w'.cell? ⟨x.bk,2,none⟩=some (.pointer (some ⟨x.a.pb,0,none⟩))) (by kernel_rfl) HS0.out (fun hH=>?_)
  simp only [List.length_cons,List.length_nil,List.replicate]
  refine tK 0 ?_ (fun w' hw'=>?_) hH ?_
  rotate_left
  ·obtain ⟨k0,k1,k2⟩:=HC.out w' hw'
   go_simp<;>with_reducible rfl
  simp only [Act.put,oZa,oZb,oZc]
  refine tK 1 ?_ (fun w' hw'=>?_) hH ?_
  rotate_left
  ·obtain ⟨k0,k1,k2⟩:=HC.out w' hw'
   go_simp<;>with_reducible rfl
  simp only [Act.put,oZa,oZb,oZc]
  refine tK 2 ?_ (fun w' hw'=>?_) hH ?_
  rotate_left
  ·obtain ⟨k0,k1,k2⟩:=HC.out w' hw'
   go_simp<;>with_reducible rfl
  simp only [Act.put,oZa,oZb,oZc]
  refine tK 3 ?_ (fun w' hw'=>?_) hH ?_
  rotate_left
  ·obtain ⟨k0,k1,k2⟩:=HC.out w' hw'
   go_simp<;>with_reducible rfl
  simp only [Act.put,oZa,oZb,oZc]
  refine tK 4 ?_ (fun w' hw'=>?_) hH ?_
  rotate_left
  ·obtain ⟨k0,k1,k2⟩:=HC.out w' hw'
   go_simp<;>with_reducible rfl
  simp only [Act.put,oZa,oZb,oZc]
  refine tK 5 ?_ (fun w' hw'=>?_) hH ?_
  rotate_left
  ·obtain ⟨k0,k1,k2⟩:=HC.out w' hw'
   go_simp<;>with_reducible rfl
  simp only [Act.put,oZa,oZb,oZc]
  refine tK 6 ?_ (fun w' hw'=>?_) hH ?_
  rotate_left
  ·obtain ⟨k0,k1,k2⟩:=HC.out w' hw'
   go_simp<;>with_reducible rfl
  simp only [Act.put,oZa,oZb,oZc]
  refine tK 7 ?_ (fun w' hw'=>?_) hH ?_
  rotate_left
  ·obtain ⟨k0,k1,k2⟩:=HC.out w' hw'
   go_simp<;>with_reducible rfl
  simp only [Act.put,oZa,oZb,oZc]
  refine tK 8 ?_ (fun w' hw'=>?_) hH ?_
  rotate_left
  ·obtain ⟨k0,k1,k2⟩:=HC.out w' hw'
   go_simp<;>with_reducible rfl
  simp only [Act.put,oZa,oZb,oZc]
  refine tK 9 ?_ (fun w' hw'=>?_) hH ?_
  rotate_left
  ·obtain ⟨k0,k1,k2⟩:=HC.out w' hw'
   go_simp<;>with_reducible rfl
  simp only [Act.put,oZa,oZb,oZc]
  refine tK 10 ?_ (fun w' hw'=>?_) hH ?_
  rotate_left
  ·obtain ⟨k0,k1,k2⟩:=HC.out w' hw'
   go_simp<;>with_reducible rfl
  simp only [Act.put,oZa,oZb,oZc]
  refine tK 11 ?_ (fun w' hw'=>?_) hH ?_
  rotate_left
  ·obtain ⟨k0,k1,k2⟩:=HC.out w' hw'
   go_simp<;>with_reducible rfl
  simp only [Act.put,oZa,oZb,oZc]
  refine stepL 12 rfl (by kernel_rfl) (fun K hK=>?_)
  go_simp
  refine hK.out _ _ (fun _=>HSA.out _) (fun _=>?_)
  simp only [oZa,oZb,oZc]
  clear hK K hH
  have HEC:=qh (HEACH.out (wa.alloc (.cells F 41)).drew wa.heap.size (((Kept.refl (fun _=>False) wa).alloc _).drew) (heap_alloc_new wa _))
  rw [HF.out] at HEC
  refine stepL 13 rfl (by kernel_rfl) (fun K hK=>?_)
  go_simp
  refine HEC.out.mono ?_
  rintro e w6 ⟨n,rfl,hpost,x6,b6,P6,L6,D6,ht6,hs6⟩
  have HPS:=qh hpost
  have HS6:=qh (show w6.heap[gb]?=some (.cells #[.pointer (some ⟨x.bk,0,none⟩)] 24 (0,0))/\w6.cell? ⟨x.bk,1,none⟩=some (.pointer (some ⟨x.a.q,0,none⟩))/\w6.cell? ⟨x.bk,2,none⟩=some (.pointer (some ⟨x.a.pb,0,none⟩)) from by
   obtain ⟨-,q1,q2,-⟩:=hs6.cells
   rw [ht6.fix.bk] at q1 q2
   rw [ht6.fix.a.q] at q1
   rw [ht6.fix.a.pb] at q2
   exact ⟨ht6.k.heap (HSA.out _).1 (HS1.out.notT (y:=gb) ⟨_,_,HB.out⟩ (by decide) (by decide) (by decide) (by decide) (by decide) (by decide) (by decide) (by decide)),q1,q2⟩)
  clear hpost ht6 hs6
  go_simp
  refine hK.out _ _ (fun _=>HS6.out) (fun _=>?_)
  simp only [oZa,oZb,oZc]
  clear hK K
  refine stepL 14 rfl (by kernel_rfl) (fun K hK=>?_)
  go_simp
  refine hK.out _ _ (fun h=>absurd rfl h) (fun _=>?_)
  simp only [oZa,oZb,oZc]
  clear hK K
  refine doneL (by kernel_rfl) ?_ _
  go_wp2
  exact HPS.out
 ·have HE:=qh (show V=(b,P,L,D,7) from by rw [HV.out];unfold zmrj;rw [if_pos HT.out.symm])
  go_wp2
  exact HPO.out 7 _ x _ _ _ _ HE.out ((BTo.refl w x).keep0 HK1.out) HS1.out
end
end Go.Proofs.YtfgagakepmigbaaGreat
