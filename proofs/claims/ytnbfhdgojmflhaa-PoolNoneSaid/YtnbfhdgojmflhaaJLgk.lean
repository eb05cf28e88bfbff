/-
  No statement is proved here.
-/
import Derived.Test.YtnbfhdgojmflhaaJLgj
import Derived.Test.YtnbfhdgojmflhaaJCpz
namespace Go.Proofs.Ytnbfhdgojmflhaa
open Go.RowKit
theorem zNGM {w:World} {ops:Array Oper} {o:Oper} {a:Act} {K:Act->World->Prop} {Q:Exit->Act->World->Prop} {E:Prop} (hgd:o.guard=none) (s x:Operand)
  (ho:o.op=.call { callee:=.builtin .append,args:=#[s,x],argTypes:=#[37,37] }) (base:Nat) (v:Value) (l m:Bytes) (hs:a.eval s=v) (hown:OwnV w base v l)
  (A:Option Addr) (n c:Nat) (hx:a.eval x=.slice A n c) (hn:m.length=n) (hm:RdB w A m) (h63:l.length+m.length<=140737488355328) (hbase:base<=w.heap.size)
  (k:∀ v' w',OwnV w' base v' (l ++ m)->Kept (fun x=>base<=x) w w'->K (a.put o.dst v') w'):if Region.wanted o (yielded ops a.tmps)=true then Oper.wp Try.prog o a w K Q else E:=by
 subst hn
 exact zpLh hgd s x ho base v l m hs hown A c hx hm h63 hbase k
theorem zG1u (g O k:Nat) (h:O < k):slA (some ⟨g,0,none⟩) O k=some ⟨g,O,none⟩:=by
 unfold slA
 rw [if_neg (by omega),Nat.mul_one]
 show some ((⟨g,0,none⟩:Addr).add O)=_
 rw [Addr.add_mid,Nat.zero_add]
theorem OwnV.parts {w:World} {base:Nat} {v:Value} {l:Bytes} (h:OwnV w base v l):∃ A n c,v=.slice A n c/\l.length=n:=by
 obtain ⟨A,c,h,_⟩:=h.slice
 exact ⟨A,_,c,h,rfl⟩
def z78h (w:World) (q p ms mo:Nat) (lv tv:Value) (L:LogM) (x:DevM×Int) (e:Ending) (w':World):Prop:=e=.returned (.int .i64 x.2)/\LogS w' q p ms mo lv tv L x.1/\Kept (fun x=>x=p\/x=ms\/x=mo) w w'
set_option maxRecDepth 100000 in
set_option maxHeartbeats 1600000 in
theorem zGlJ (w:World) (q p ms mo:Nat) (lv tv:Value) (L:LogM) (D:DevM) (h:LogS w q p ms mo lv tv L D) (hok:LogOk L) (t0:0<=L.turn) (t1:L.turn<=5000000000) (htl:L.tail.length<=51) :
  Calls Try.prog 50 #[.pointer (some ⟨q,0,none⟩)] w (z78h w q p ms mo lv tv L (L.cut D)):=by
 have H:=qh h
 have s0:1<=L.fin:=by have:=hok.o0;have:=hok.o1;omega
 have s1:=hok.e1
 have c5:w.cell? ⟨q,5,none⟩=some (.int .i64 L.fin):=zcjX h.hq rfl
 have c0:w.cell? ⟨q,0,none⟩=some (.pointer (some ⟨p,0,none⟩)):=zcjX h.hq rfl
 have HSEC:=qh (zdrd w q p lv tv L h.hq hok L.fin s0 (by omega))
 have hO:=zSEi (a:=L.fin) hok.c0
 have hF:=zjuj (a:=L.fin)
 obtain ⟨O,hO'⟩:∃ O:Nat,secO L.count L.fin=(O:Int):=⟨(secO L.count L.fin).toNat,by omega⟩
 obtain ⟨B,hB⟩:∃ B,B=secB L.first L.count L.fin:=⟨_,rfl⟩
 obtain ⟨F,hFF⟩:∃ F,F=secF L.fin:=⟨_,rfl⟩
 obtain ⟨m,hm⟩:∃ m,m=z7b5 F.toNat L.turn.toNat L.tail.length ++ L.tail:=⟨_,rfl⟩
 have hv:L.cut D=if D.mayE B≠0 then (D,D.mayE B) else
   if (D.write B (zPwQ (D.latest B) O m)).1≠0 then ((D.write B (zPwQ (D.latest B) O m)).2,(D.write B (zPwQ (D.latest B) O m)).1) else
   (((D.write B (zPwQ (D.latest B) O m)).2.syncR).2,((D.write B (zPwQ (D.latest B) O m)).2.syncR).1):=by
  unfold LogM.cut
  rw [<- hB,hO',Int.toNat_natCast,<- hFF,<- hm]
 obtain ⟨X,hX⟩:∃ X,X=L.cut D:=⟨_,rfl⟩
 rw [<- hX] at hv ⊢
 rw [<- hB,hO',<- hFF] at HSEC
 have hF1:F<=L.fin/\1<=F:=by rw [hFF];unfold secF;omega
 have hO448:O<=448:=by omega
 by_cases hmay:D.mayE B=0
 ·rw [if_neg (by rw [hmay];decide)] at hv
  have HV:=qh hv
  have HRD:=qh (zqzz h.dev B hmay)
  have LB:=qh (h.dev.len B)
  have HM:=qh hm
  have HTL:=qh htl
  clear hv hX hmay hB hFF hm hO hF hO' h hok
  go_enter Try.func50,Try.ntmps50
  go_wp2_with fail
  refine HSEC.out.mono ?_
  rintro e wx ⟨rfl,rfl⟩
  go_wp2_with fail
  refine HRD.out.mono ?_
  rintro e w2 ⟨g2,k2,rfl,hb2,hk2⟩
  have hk512:512<=k2:=by
   obtain ⟨cur,_,_,h5,_⟩:=hb2.form
   rw [LB.out] at h5;exact h5
  have HB2:=qh hb2
  have HK2:=qh hk2
  have HS2:=qh (H.out.keep hk2 (fun _ _=>id))
  clear hb2 hk2 HRD HSEC
  go_wp2_with (first
   | (refine z3Ho rfl (zW40 _ _ _ O (O+64) 64 rfl (some ⟨g2,0,none⟩) 512 k2 _ _ rfl rfl rfl (by go_num) (by go_num) (by omega) (by omega) (by omega) _) ?_)
   | (refine z623 rfl _ rfl HB2.out O 64 (k2 - O) (by rw [LB.out];omega) (slA (some ⟨g2,0,none⟩) O k2) (fun _=>zG1u _ _ _ (by omega)) rfl ?_))
  intro w3 hb3 hk3
  obtain ⟨P1,hP1⟩:∃ P1,P1=ovL (D.latest B) O (zeros 64):=⟨_,rfl⟩
  have LP1:=qh (show P1.length=512 from by rw [hP1,zvaq (by rw [LB.out];omega),LB.out])
  rw [<- hP1] at hb3
  have HP1:=qh hP1
  have HB3:=qh hb3
  have HK3:=qh (HK2.out.new hk3 (by rintro x rfl;exact HB2.out.base_le))
  have HS3:=qh (HS2.out.keep hk3 (by
   rintro x hx rfl
   have h1:=HB2.out.base_le
   rcases hx with rfl | rfl | rfl | rfl | hx | hx
   ·have:=zvKu H.out.hq;omega
   ·have:=zvKu H.out.dev.hp;omega
   ·have:=H.out.dev.hs.lt;omega
   ·have:=H.out.dev.ho.lt;omega
   ·have:=(H.out.hl.base_le hx).2;omega
   ·have:=(H.out.ht.base_le hx).2;omega))
  clear hb3 hk3 hP1 HB2 HK2 HS2
  obtain ⟨At,nt,ct,htv,hnt⟩:=HS3.out.ht.parts
  subst htv
  have HNT:=qh hnt
  have hnt2:nt<=51:=by have:=HTL.out;omega
  clear hnt
  go_wp2_with fail
  refine znCh 19 (fun w'=>LogQ w' q p lv (.slice At nt ct) L) (by kernel_rfl) HS3.out.hq (fun hH=>?_)
  simp only [List.length_cons,List.length_nil,List.replicate]
  refine tK 0 ?_ (fun w' hw'=>?_) hH ?_
  rotate_left
  ·skip
   go_simp<;>with_reducible rfl
  simp only [Act.put,oZa,oZb,oZc]
  refine tK 1 ?_ (fun w' hw'=>?_) hH ?_
  rotate_left
  ·skip
   go_simp<;>with_reducible rfl
  simp only [Act.put,oZa,oZb,oZc]
  refine takeL 2 (.slice (slA (some ⟨g2,0,none⟩) O k2) (512 - O) (k2 - O)) rfl (by kernel_rfl) (fun _ _ _ h=>h) (by rfl) (fun w' _=>zjw2 _ _ O rfl (some ⟨g2,0,none⟩) 512 k2 _ rfl rfl rfl (by omega) w') hH ?_
  simp only [Act.put,oZa,oZb,oZc]
  refine tK 3 ?_ (fun w' hw'=>?_) hH ?_
  rotate_left
  ·have c3:w'.cell? ⟨q,3,none⟩=some (.int .i64 L.turn):=zcjX hw' rfl;have c8:w'.cell? ⟨q,8,none⟩=some (.slice At nt ct):=zcjX hw' rfl
   go_simp<;>with_reducible rfl
  simp only [Act.put,oZa,oZb,oZc]
  refine tK 4 ?_ (fun w' hw'=>?_) hH ?_
  rotate_left
  ·have c3:w'.cell? ⟨q,3,none⟩=some (.int .i64 L.turn):=zcjX hw' rfl;have c8:w'.cell? ⟨q,8,none⟩=some (.slice At nt ct):=zcjX hw' rfl
   go_simp<;>with_reducible rfl
  simp only [Act.put,oZa,oZb,oZc]
  refine tK 5 ?_ (fun w' hw'=>?_) hH ?_
  rotate_left
  ·have c3:w'.cell? ⟨q,3,none⟩=some (.int .i64 L.turn):=zcjX hw' rfl;have c8:w'.cell? ⟨q,8,none⟩=some (.slice At nt ct):=zcjX hw' rfl
   go_simp<;>with_reducible rfl
  simp only [Act.put,oZa,oZb,oZc]
  refine tK 6 ?_ (fun w' hw'=>?_) hH ?_
  rotate_left
  ·have c3:w'.cell? ⟨q,3,none⟩=some (.int .i64 L.turn):=zcjX hw' rfl;have c8:w'.cell? ⟨q,8,none⟩=some (.slice At nt ct):=zcjX hw' rfl
   go_simp<;>with_reducible rfl
  simp only [Act.put,oZa,oZb,oZc]
  refine tK 7 ?_ (fun w' hw'=>?_) hH ?_
  rotate_left
  ·have c3:w'.cell? ⟨q,3,none⟩=some (.int .i64 L.turn):=zcjX hw' rfl;have c8:w'.cell? ⟨q,8,none⟩=some (.slice At nt ct):=zcjX hw' rfl
   go_simp<;>with_reducible rfl
  simp only [Act.put,oZa,oZb,oZc]
  refine tK 8 ?_ (fun w' hw'=>?_) hH ?_
  rotate_left
  ·have c3:w'.cell? ⟨q,3,none⟩=some (.int .i64 L.turn):=zcjX hw' rfl;have c8:w'.cell? ⟨q,8,none⟩=some (.slice At nt ct):=zcjX hw' rfl
   go_simp<;>with_reducible rfl
  simp only [Act.put,oZa,oZb,oZc]
  refine tK 9 ?_ (fun w' hw'=>?_) hH ?_
  rotate_left
  ·have c3:w'.cell? ⟨q,3,none⟩=some (.int .i64 L.turn):=zcjX hw' rfl;have c8:w'.cell? ⟨q,8,none⟩=some (.slice At nt ct):=zcjX hw' rfl
   go_simp<;>with_reducible rfl
  simp only [Act.put,oZa,oZb,oZc]
  refine tK 10 ?_ (fun w' hw'=>?_) hH ?_
  rotate_left
  ·have c3:w'.cell? ⟨q,3,none⟩=some (.int .i64 L.turn):=zcjX hw' rfl;have c8:w'.cell? ⟨q,8,none⟩=some (.slice At nt ct):=zcjX hw' rfl
   go_simp<;>with_reducible rfl
  simp only [Act.put,oZa,oZb,oZc]
  refine tK 11 ?_ (fun w' hw'=>?_) hH ?_
  rotate_left
  ·have c3:w'.cell? ⟨q,3,none⟩=some (.int .i64 L.turn):=zcjX hw' rfl;have c8:w'.cell? ⟨q,8,none⟩=some (.slice At nt ct):=zcjX hw' rfl
   go_simp<;>with_reducible rfl
  simp only [Act.put,oZa,oZb,oZc]
  refine tK 12 ?_ (fun w' hw'=>?_) hH ?_
  rotate_left
  ·have c3:w'.cell? ⟨q,3,none⟩=some (.int .i64 L.turn):=zcjX hw' rfl;have c8:w'.cell? ⟨q,8,none⟩=some (.slice At nt ct):=zcjX hw' rfl
   go_simp<;>with_reducible rfl
  simp only [Act.put,oZa,oZb,oZc]
  refine tK 14 ?_ (fun w' hw'=>?_) hH ?_
  rotate_left
  ·have c3:w'.cell? ⟨q,3,none⟩=some (.int .i64 L.turn):=zcjX hw' rfl;have c8:w'.cell? ⟨q,8,none⟩=some (.slice At nt ct):=zcjX hw' rfl
   go_simp<;>with_reducible rfl
  simp only [Act.put,oZa,oZb,oZc]
  refine tK 15 ?_ (fun w' hw'=>?_) hH ?_
  rotate_left
  ·have c3:w'.cell? ⟨q,3,none⟩=some (.int .i64 L.turn):=zcjX hw' rfl;have c8:w'.cell? ⟨q,8,none⟩=some (.slice At nt ct):=zcjX hw' rfl
   go_simp<;>with_reducible rfl
  simp only [Act.put,oZa,oZb,oZc]
  refine tK 16 ?_ (fun w' hw'=>?_) hH ?_
  rotate_left
  ·have c3:w'.cell? ⟨q,3,none⟩=some (.int .i64 L.turn):=zcjX hw' rfl;have c8:w'.cell? ⟨q,8,none⟩=some (.slice At nt ct):=zcjX hw' rfl
   go_simp<;>with_reducible rfl
  simp only [Act.put,oZa,oZb,oZc]
  refine tK 17 ?_ (fun w' hw'=>?_) hH ?_
  rotate_left
  ·have c3:w'.cell? ⟨q,3,none⟩=some (.int .i64 L.turn):=zcjX hw' rfl;have c8:w'.cell? ⟨q,8,none⟩=some (.slice At nt ct):=zcjX hw' rfl
   go_simp<;>with_reducible rfl
  simp only [Act.put,oZa,oZb,oZc]
  refine stepL 13 rfl (by kernel_rfl) (fun K hK=>?_)
  go_simp
  go_at_call 55
  refine (zl7L F L.turn nt _ (by omega) (by omega) t0 (by omega) (by omega) (by omega)).mono ?_
  rintro e w4 ⟨v4,rfl,ho4,hk4⟩
  have HO4:=qh ho4
  have HK4:=qh (HK3.out.drew.trans0 hk4)
  have HS4:=qh ((HS3.out.keep ((Kept.refl (fun _=>False) w3).drew) (fun _ _=>id)).keep hk4 (fun _ _=>id))
  have HB4:=qh ((HB3.out.keep ((Kept.refl (fun _=>False) w3).drew) id).keep hk4 id)
  have SZ4:=qh hk4.size
  clear ho4 hk4
  go_simp
  refine hK.out _ _ (fun _=>HS4.out.hq) (fun _=>?_)
  simp only [oZa,oZb,oZc]
  clear hK K
  have LST:(z7b5 F.toNat L.turn.toNat (nt:Int).toNat).length=13:=by simp [z7b5,zmTu]
  refine stepL 18 rfl (by kernel_rfl) (fun K hK=>?_)
  refine zNGM rfl _ _ (by rfl) w3.heap.size v4 _ L.tail (by rfl) HO4.out At nt ct (by rfl) HNT.out HS4.out.ht.rd (by rw [LST,HNT.out];omega) SZ4.out ?_
  intro v5 w5 ho5 hk5
  have hmm:z7b5 F.toNat L.turn.toNat (nt:Int).toNat ++ L.tail=m:=by rw [HM.out,HNT.out,Int.toNat_natCast]
  rw [hmm] at ho5
  obtain ⟨A5,n5,c5',hv5,hn5⟩:=ho5.parts
  subst hv5
  have HN5:=qh hn5
  have HLM:=qh (show m.length<=64 from by rw [<- hmm,List.length_append,LST,HNT.out];omega)
  have HO5:=qh ho5
  have HK5:=qh (HK4.out.new hk5 (fun x hx=>Nat.le_trans HK3.out.size hx))
  have old5:∀ x,x < w3.heap.size->¬ w3.heap.size<=x:=fun x hx h=>by omega
  have HS5:=qh (HS4.out.keep hk5 (by
   rintro x hx h
   have hs3:=HK3.out.size
   rcases hx with rfl | rfl | rfl | rfl | hx | hx
   ·have:=zvKu H.out.hq;omega
   ·have:=zvKu H.out.dev.hp;omega
   ·have:=H.out.dev.hs.lt;omega
   ·have:=H.out.dev.ho.lt;omega
   ·have:=(H.out.hl.base_le hx).2;omega
   ·have:=(H.out.ht.base_le hx).2;omega))
  have g3:g2 < w3.heap.size:=by obtain ⟨cur,_,h,_⟩:=HB3.out.form;exact zvKu h
  have HB5:=qh (HB4.out.keep hk5 (fun h=>by omega))
  clear ho5 hk5 hmm hn5 LST old5
  refine hK.out _ _ (fun _=>HS5.out.hq) (fun _=>?_)
  simp only [Act.put,oZa,oZb,oZc]
  clear hK K
  refine stepL 19 rfl (by kernel_rfl) (fun K hK=>?_)
  refine z83d rfl _ _ (by rfl) HB5.out O (by rw [LP1.out];omega) (slA (some ⟨g2,0,none⟩) O k2) A5 (fun _=>zG1u _ _ _ (by omega)) m HO5.out.rd (k2 - O) c5' (by rw [LP1.out];rfl) (by rw [HN5.out];rfl) ?_
  intro n6 w6 hn6 hb6 hk6
  have hpg:ovL P1 O m=zPwQ (D.latest B) O m:=by rw [HP1.out];exact zqs4 (by rw [LB.out];omega) HLM.out
  rw [hpg] at hb6
  obtain ⟨PG,hPG⟩:∃ PG,PG=zPwQ (D.latest B) O m:=⟨_,rfl⟩
  rw [<- hPG] at hb6 HV
  have LPG:=qh (show PG.length=512 from by rw [hPG,<- hpg,zvaq (by rw [LP1.out];omega),LP1.out])
  have HB6:=qh hb6
  have HK6:=qh (HK5.out.new hk6 (by rintro x rfl;exact HB3.out.base_le))
  have HS6:=qh (HS5.out.keep hk6 (by
   rintro x hx rfl
   have h1:=HB3.out.base_le
   rcases hx with rfl | rfl | rfl | rfl | hx | hx
   ·have:=zvKu H.out.hq;omega
   ·have:=zvKu H.out.dev.hp;omega
   ·have:=H.out.dev.hs.lt;omega
   ·have:=H.out.dev.ho.lt;omega
   ·have:=(H.out.hl.base_le hx).2;omega
   ·have:=(H.out.ht.base_le hx).2;omega))
  clear hn6 hb6 hk6 hpg hPG
  refine hK.out _ _ (fun h=>absurd rfl h) (fun _=>?_)
  simp only [Act.put,oZa,oZb,oZc]
  clear hK K hH
  refine doneL (by kernel_rfl) ?_ _
  have c06:w6.cell? ⟨q,0,none⟩=some (.pointer (some ⟨p,0,none⟩)):=zcjX HS6.out.hq rfl
  have HW:=qh (show Calls Try.prog 56 #[.pointer (some ⟨p,0,none⟩),.int .i64 B,.slice (some ⟨g2,0,none⟩) 512 k2] w6 fun e w'=>e=.returned (.int .i64 (D.write B PG).1)/\DevAt w' p ms mo (D.write B PG).2/\Kept (fun x=>x=p\/x=mo) w6 w' from by
   have:=zquG HS6.out.dev B (some ⟨g2,0,none⟩) k2 PG (OwnV.rd (n:=PG.length) (c:=k2) HB6.out)
   rwa [LPG.out] at this)
  obtain ⟨Y,hY⟩:∃ Y,Y=D.write B PG:=⟨_,rfl⟩
  rw [<- hY] at HW HV
  clear hY
  go_wp2_with fail
  refine HW.out.mono ?_
  rintro e w7 ⟨rfl,hd7,hk7⟩
  have HD7:=qh hd7
  have HK7:=qh ((HK6.out.mono (T:=fun x=>x=p\/x=ms\/x=mo) (fun _ _ h=>h.elim)).trans hk7 (fun x _ h=>by rcases h with h | h;exact .inl h;exact .inr (.inr h)))
  have HS7:=qh (show LogS w7 q p ms mo lv (.slice At nt ct) L Y.2 from
   ⟨hd7,hk7.heap HS6.out.hq (by rintro (e | e);exact H.out.nq.1 e.symm;exact H.out.nq.2.2 e.symm),HS6.out.hl.keep hk7 (fun x hx e=>by have:=H.out.nl x hx;rcases e with e | e;exact this.2.1 e;exact this.2.2.2.1 e),
    HS6.out.ht.keep hk7 (fun x hx e=>by have:=H.out.nt x hx;rcases e with e | e;exact this.2.1 e;exact this.2.2.2 e),H.out.nq,H.out.nl,H.out.nt⟩)
  clear hd7 hk7 HW c06
  obtain ⟨E,hE⟩:∃ E,E=Y.1:=⟨_,rfl⟩
  rw [<- hE] at HV ⊢
  clear hE
  by_cases hE0:E=0
  ·subst hE0
   have c07:w7.cell? ⟨q,0,none⟩=some (.pointer (some ⟨p,0,none⟩)):=zcjX HS7.out.hq rfl
   have HSY:=qh (zWTC HS7.out.dev)
   obtain ⟨Z,hZ⟩:∃ Z,Z=Y.2.syncR:=⟨_,rfl⟩
   rw [<- hZ] at HSY HV
   clear hZ
   go_wp2_with (go_at_call 43;refine HSY.out.mono ?_;rintro e w8 ⟨rfl,hd8,hk8⟩)
   go_ret
   unfold z78h
   rw [HV.out,if_neg (by decide)]
   exact ⟨rfl,⟨hd8,hk8.heap HS7.out.hq (by rintro (e | e | e);exact H.out.nq.1 e.symm;exact H.out.nq.2.1 e.symm;exact H.out.nq.2.2 e.symm),HS7.out.hl.keep hk8 (fun x hx e=>by have:=H.out.nl x hx;rcases e with e | e | e;exact this.2.1 e;exact this.2.2.1 e;exact this.2.2.2.1 e),
    HS7.out.ht.keep hk8 (fun x hx e=>by have:=H.out.nt x hx;rcases e with e | e | e;exact this.2.1 e;exact this.2.2.1 e;exact this.2.2.2 e),H.out.nq,H.out.nl,H.out.nt⟩,HK7.out.trans' hk8⟩
  ·have hEb:(E != 0)=true:=by simpa using hE0
   go_wp2
   go_ret
   unfold z78h
   rw [HV.out,if_pos hE0]
   exact ⟨rfl,HS7.out,HK7.out⟩
 ·rw [if_pos hmay] at hv
  have HV:=qh hv
  have HRD:=qh (zpER h.dev _ hmay)
  have hmb:(D.mayE B != 0)=true:=by simpa using hmay
  obtain ⟨E,hE⟩:∃ E,E=D.mayE B:=⟨_,rfl⟩
  rw [<- hE] at HRD hmb HV
  clear hE hv hX hmay hB hFF hm hO hF hO' h hok
  go_enter Try.func50,Try.ntmps50
  go_wp2_with fail
  refine HSEC.out.mono ?_
  rintro e wx ⟨rfl,rfl⟩
  go_wp2_with (go_at_call 28;refine HRD.out.mono ?_;rintro e w2 ⟨rfl,rfl⟩)
  go_ret
  unfold z78h
  rw [HV.out]
  exact ⟨rfl,H.out,Kept.refl _ _⟩
end Go.Proofs.Ytnbfhdgojmflhaa
