/-
  No statement is proved here.
-/
import Derived.Test.YtnbfhdgojmflhaaJLge
import Derived.Deep.QuietTactic
import Derived.BigQuiet
namespace Go.Proofs.Ytnbfhdgojmflhaa
open Go.RowKit
theorem zl7L (a t u:Int) (w:World) (a0:0<=a) (a1:a<=9223372036854775807) (t0:0<=t) (t1:t<=9223372036854775807) (u0:0<=u) (u1:u<=255) :
  Calls Try.prog 55 #[.int .i64 a,.int .i64 t,.int .i64 u] w fun e w'=>∃ v,e=.returned v/\OwnV w' w.heap.size v (z7b5 a.toNat t.toNat u.toNat)/\Kept (fun _=>False) w w':=by
 have SZ:=qh (Nat.le_refl w.heap.size)
 obtain ⟨base,hbase⟩:∃ base,base=w.heap.size:=⟨_,rfl⟩
 rw [<- hbase] at SZ ⊢
 have HB:=qh hbase.symm
 clear hbase
 have eu:u % 256=u:=by omega
 go_enter Try.func55,Try.ntmps55
 go_wp2_with fail
 refine (zziy _ [] a 8 base w (OwnV.nil _ _) (Nat.le_of_eq HB.out.symm) a0 a1 (by decide) (by decide)).mono ?_
 rintro e w1 ⟨v1,rfl,ho1,hk1⟩
 have HO1:=qh ho1
 have K1:=qh hk1
 clear ho1 hk1
 go_wp2_with fail
 refine (zziy v1 _ t 4 base w1 HO1.out (by have:=K1.out.size;have:=HB.out;omega) t0 t1 (by decide) (by simp [zmTu])).mono ?_
 rintro e w2 ⟨v2,rfl,ho2,hk2⟩
 have K2:=qh (K1.out.trans' hk2)
 have HO2:=qh ho2
 clear ho2 hk2 HO1 K1
 have ka:Kept (fun _=>False) w2 (w2.alloc (.cells #[.int .u8 u] 5)):=(Kept.refl _ w2).alloc _
 have KA:=Lib.hid ka
 have HO3:=qh (HO2.out.keep ka (fun _ _ h=>h))
 have HBY:=qh (show (w2.alloc (.cells (cellsOf [UInt8.ofNat u.toNat]) 5)).heap[w2.heap.size]?=some (.cells (cellsOf [UInt8.ofNat u.toNat]) 5 (0,0)) from heap_alloc_new w2 _)
 have ec:cellsOf [UInt8.ofNat u.toNat]=#[.int .u8 u]:=by
  show #[Value.int .u8 (((UInt8.ofNat u.toNat).toNat:Nat):Int)]=_
  rw [UInt8.toNat_ofNat']
  congr 3
  omega
 rw [ec] at HBY
 have EC:=Lib.hid ec
 clear ka ec
 go_wp2_with (at_builtin;refine zZjY rfl _ _ rfl base _ ([] ++ beN a.toNat 8 ++ beN t.toNat 4) [UInt8.ofNat u.toNat] rfl HO3.out (some ⟨w2.heap.size,0,none⟩) 1 1 rfl rfl (RdB.of_blk (by rw [EC.out];exact HBY.out)) (by simp [zmTu]) (by have:=K2.out.size;have:=KA.out.size;have:=HB.out;omega) ?_)
 intro v3 w3 ho3 hk3 hat3
 have HO4:=qh ho3
 have K3:=qh ((K2.out.trans' (KA.out.mono (fun _ _ h=>h.elim))).trans hk3 (fun x _ e=>(HO3.out.base_le e).1))
 clear ho3 hk3 hat3
 go_wp2
 go_ret
 refine ⟨v3,rfl,?_,?_⟩
 ·exact HO4.out
 ·exact K3.out.mono (fun x hx h=>by have:=HB.out;omega)
theorem z1Ea (w:World) (q p:Nat) (lv tv:Value) (L:LogM) (h:LogQ w q p lv tv L) (hok:LogOk L) :
  Calls Try.prog 53 #[.pointer (some ⟨q,0,none⟩)] w fun e w'=>e=.returned (.int .i64 L.room)/\Same w w':=by
 have HT:=qh (fun wx (h:LogQ wx q p lv tv L)=>zATj wx q p lv tv L h)
 have HS:=qh (fun n=>znpN (w.drewN n) q p lv tv L h hok)
 have H:=qh h
 have c5:w.cell? ⟨q,5,none⟩=some (.int .i64 L.fin):=zcjX h rfl
 have c4:w.cell? ⟨q,4,none⟩=some (.int .i64 L.oldest):=zcjX h rfl
 have h1:=hok.c0
 have h2:=hok.c1
 have h3:=hok.o0
 have h4:=hok.o1
 have h5:=hok.e1
 have e1:L.room=L.count*408 - 408 - (L.fin - L.oldest):=rfl
 rw [e1]
 have r1:IntKind.i64.wrap (L.count*408 - 408)=L.count*408 - 408:=by rw [IntKind.wrap_i64];omega
 have r2:IntKind.i64.wrap (L.fin - L.oldest)=L.fin - L.oldest:=by rw [IntKind.wrap_i64];omega
 have r3:IntKind.i64.wrap (L.count*408 - 408 - (L.fin - L.oldest))=L.count*408 - 408 - (L.fin - L.oldest):=by rw [IntKind.wrap_i64];omega
 clear h hok e1
 go_enter Try.func53,Try.ntmps53
 go_wp2_with fail
 refine (HT.out w H.out).mono ?_
 rintro e wx ⟨rfl,rfl⟩
 go_wp2_with fail
 go_quiet (first | (go_at_call 46;exact (HS.out _).mono (fun _ _ h=>⟨h.1,_,h.2.symm⟩)))
 go_wp2
 go_ret
 exact ⟨rfl,_,rfl⟩
def zM8N (w:World) (q p ms mo:Nat) (lv tv:Value) (L:LogM) (D:DevM) (r:RecM) (e:Ending) (w':World):Prop:=e=.returned (.tuple #[.int .i64 (L.append r).2.1,.int .i64 (L.append r).2.2]) /\
 ∃ lv' tv',LogS w' q p ms mo lv' tv' (L.append r).1 D/\Kept (fun x=>x=q\/lv.ownBlock=some x\/tv.ownBlock=some x) w w'/\OwnTo w lv lv'/\OwnTo w tv tv'
theorem OwnTo.refl (w:World) (v:Value):OwnTo w v v:=.inl rfl
theorem OwnTo.late {S:Nat->Prop} {w w0:World} {v v':Value} (h:OwnTo w v v') (hk:Kept S w0 w):OwnTo w0 v v':=by
 rcases h with h | h
 ·exact .inl h
 ·exact .inr (fun x hx=>Nat.le_trans hk.size (h x hx))
theorem zgVu (r:RecM) (A1:Option Addr) (c1:Nat) (A2:Option Addr) (c2:Nat) (a t:Int):((recC r A1 c1 A2 c2).setIfInBounds 0 (.int .i64 a)).setIfInBounds 1 (.int .i64 t)=recC { r with lsn:=a,turn:=t } A1 c1 A2 c2:=rfl
set_option maxRecDepth 100000 in
set_option maxHeartbeats 1600000 in
theorem z0zc (w:World) (q p ms mo:Nat) (lv tv:Value) (L:LogM) (D:DevM) (h:LogS w q p ms mo lv tv L D) (hok:LogOk L) (ht:isI L.turn) (htl:L.tail.length<=100000000000000) (hll:L.lsns.length<=1000000000)
  (r:RecM) (A1:Option Addr) (c1:Nat) (A2:Option Addr) (c2:Nat) (ho:RecOk r) (h1:r.old.length<=1000000) (h2:r.new.length<=1000000) (hr1:RdB w A1 r.old) (hr2:RdB w A2 r.new) :
  Calls Try.prog 24 #[.pointer (some ⟨q,0,none⟩),zz52 r A1 c1 A2 c2] w (zM8N w q p ms mo lv tv L D r):=by
 have H:=qh h
 have HOK:=qh hok
 have hv:zz52 r A1 c1 A2 c2=.agg (recC r A1 c1 A2 c2):=rfl
 rw [hv]
 have hfi:isI L.fin:=by have:=hok.o0;have:=hok.o1;have:=hok.e1;unfold isI;omega
 obtain ⟨r',hr'⟩:∃ r':RecM,r'={ r with lsn:=L.fin,turn:=L.turn }:=⟨_,rfl⟩
 have HR':=qh hr'.symm
 have ho':RecOk r':=by rw [hr'];exact ⟨hfi,ht,ho.tx,ho.prev,ho.next,ho.blk,ho.off⟩
 have hold:r'.old=r.old:=by rw [hr']
 have hnew:r'.new=r.new:=by rw [hr']
 have HRA:=qh hr1
 have HRB:=qh hr2
 have HPUT:=qh (fun wx (k1:RdB wx A1 r.old) (k2:RdB wx A2 r.new)=>zaP4 r' A1 c1 A2 c2 wx ho' (by rw [hold];exact h1) (by rw [hnew];exact h2) (by rw [hold];exact k1) (by rw [hnew];exact k2))
 have HAP:=qh (show L.append r=if ¬ zZer r' then (L,0,4) else if L.room < ((encM r').length:Int) then (L,0,5) else ({ L with tail:=L.tail ++ encM r',lsns:=L.lsns ++ [L.fin],fin:=L.fin+(encM r').length },L.fin,0) from by rw [hr'];rfl)
 have HTH:=qh (zATj w q p lv tv L h.hq)
 clear hv hr' ho' hold hnew hr1 hr2 h hok ho
 go_enter Try.func24,Try.ntmps24
 go_wp2_with (refine znBH rfl 78 _ rfl (.agg (recC r A1 c1 A2 c2)) rfl ?_)
 intro y w1 y1 y2 hb1 hk1
 have HB1:=qh (show w1.heap[y]?=some (.cells (recC r A1 c1 A2 c2) 78 (0,0)) from hb1)
 have HK1:=qh hk1
 have HS1:=qh (H.out.keep hk1 (fun _ _=>id))
 clear hb1 hk1 HTH
 have HTH:=qh (zATj w1 q p lv tv L HS1.out.hq)
 go_wp2_with fail
 refine HTH.out.mono ?_
 rintro e wx ⟨rfl,rfl⟩
 go_wp2_with fail
 refine znCh 11 (fun w'=>LogQ w' q p lv tv L) (by kernel_rfl) HS1.out.hq (fun hH=>?_)
 simp only [List.length_cons,List.length_nil,List.replicate]
 refine tK 0 ?_ (fun w' hw'=>?_) hH ?_
 rotate_left
 ·have c5:w'.cell? ⟨q,5,none⟩=some (.int .i64 L.fin):=zcjX hw' rfl;have c3:w'.cell? ⟨q,3,none⟩=some (.int .i64 L.turn):=zcjX hw' rfl
  go_simp<;>with_reducible rfl
 simp only [Act.put,oZa,oZb,oZc]
 refine tK 1 ?_ (fun w' hw'=>?_) hH ?_
 rotate_left
 ·have c5:w'.cell? ⟨q,5,none⟩=some (.int .i64 L.fin):=zcjX hw' rfl;have c3:w'.cell? ⟨q,3,none⟩=some (.int .i64 L.turn):=zcjX hw' rfl
  go_simp<;>with_reducible rfl
 simp only [Act.put,oZa,oZb,oZc]
 refine tK 2 ?_ (fun w' hw'=>?_) hH ?_
 rotate_left
 ·have c5:w'.cell? ⟨q,5,none⟩=some (.int .i64 L.fin):=zcjX hw' rfl;have c3:w'.cell? ⟨q,3,none⟩=some (.int .i64 L.turn):=zcjX hw' rfl
  go_simp<;>with_reducible rfl
 simp only [Act.put,oZa,oZb,oZc]
 refine tK 3 ?_ (fun w' hw'=>?_) hH ?_
 rotate_left
 ·have c5:w'.cell? ⟨q,5,none⟩=some (.int .i64 L.fin):=zcjX hw' rfl;have c3:w'.cell? ⟨q,3,none⟩=some (.int .i64 L.turn):=zcjX hw' rfl
  go_simp<;>with_reducible rfl
 simp only [Act.put,oZa,oZb,oZc]
 refine tK 4 ?_ (fun w' hw'=>?_) hH ?_
 rotate_left
 ·have c5:w'.cell? ⟨q,5,none⟩=some (.int .i64 L.fin):=zcjX hw' rfl;have c3:w'.cell? ⟨q,3,none⟩=some (.int .i64 L.turn):=zcjX hw' rfl
  go_simp<;>with_reducible rfl
 simp only [Act.put,oZa,oZb,oZc]
 refine tK 5 ?_ (fun w' hw'=>?_) hH ?_
 rotate_left
 ·have c5:w'.cell? ⟨q,5,none⟩=some (.int .i64 L.fin):=zcjX hw' rfl;have c3:w'.cell? ⟨q,3,none⟩=some (.int .i64 L.turn):=zcjX hw' rfl
  go_simp<;>with_reducible rfl
 simp only [Act.put,oZa,oZb,oZc]
 refine tK 6 ?_ (fun w' hw'=>?_) hH ?_
 rotate_left
 ·have c5:w'.cell? ⟨q,5,none⟩=some (.int .i64 L.fin):=zcjX hw' rfl;have c3:w'.cell? ⟨q,3,none⟩=some (.int .i64 L.turn):=zcjX hw' rfl
  go_simp<;>with_reducible rfl
 simp only [Act.put,oZa,oZb,oZc]
 refine tK 7 ?_ (fun w' hw'=>?_) hH ?_
 rotate_left
 ·have c5:w'.cell? ⟨q,5,none⟩=some (.int .i64 L.fin):=zcjX hw' rfl;have c3:w'.cell? ⟨q,3,none⟩=some (.int .i64 L.turn):=zcjX hw' rfl
  go_simp<;>with_reducible rfl
 simp only [Act.put,oZa,oZb,oZc]
 refine tK 8 ?_ (fun w' hw'=>?_) hH ?_
 rotate_left
 ·have c5:w'.cell? ⟨q,5,none⟩=some (.int .i64 L.fin):=zcjX hw' rfl;have c3:w'.cell? ⟨q,3,none⟩=some (.int .i64 L.turn):=zcjX hw' rfl
  go_simp<;>with_reducible rfl
 simp only [Act.put,oZa,oZb,oZc]
 refine stepL 9 rfl (by kernel_rfl) (fun K hK=>?_)
 refine zRRc rfl 2 _ _ (by rfl) y 0 (.int .i64 L.fin) (recC r A1 c1 A2 c2) (by rfl) (by rfl) HB1.out (by kernel_rfl) (by show 0 < 10;decide) rfl ?_
 intro w2 hb2 hk2
 have HB2:=qh hb2
 have qy:q≠y:=fun e=>by have:=zvKu H.out.hq;omega
 have HQ2:=qh (hk2.heap HS1.out.hq qy)
 have HK2:=qh (HK1.out.drew.new hk2 (by rintro x rfl;exact y1))
 clear hb2 hk2
 refine hK.out _ _ (fun _=>HQ2.out) (fun _=>?_)
 simp only [Act.put,oZa,oZb,oZc]
 clear hK K
 refine stepL 10 rfl (by kernel_rfl) (fun K hK=>?_)
 go_simp
 refine hK.out _ _ (fun _=>HQ2.out) (fun _=>?_)
 simp only [oZa,oZb,oZc]
 clear hK K
 refine stepL 11 rfl (by kernel_rfl) (fun K hK=>?_)
 refine zRRc rfl 2 _ _ (by rfl) y 1 (.int .i64 L.turn) ((recC r A1 c1 A2 c2).setIfInBounds 0 (.int .i64 L.fin)) (by rfl) (by rfl) HB2.out (by kernel_rfl) (by show 1 < 10;decide) rfl ?_
 intro w3 hb3 hk3
 rw [zgVu,HR'.out] at hb3
 have HB3:=qh hb3
 have HK3:=qh (HK2.out.new hk3 (by rintro x rfl;exact y1))
 clear hb3 hk3
 refine hK.out _ _ (fun h=>absurd rfl h) (fun _=>?_)
 simp only [Act.put,oZa,oZb,oZc]
 clear hK K hH
 refine doneL (by kernel_rfl) ?_ _
 have HS3:=qh (H.out.keep HK3.out (fun _ _=>id))
 clear HS1 HQ2 HB1 HB2 HK1 HK2
 go_wp2_with (refine zFcC rfl 78 _ rfl y rfl (recC r' A1 c1 A2 c2) HB3.out Try.underlying78 rfl zWmC ?_)
 refine (HPUT.out w3 (HRA.out.kept HK3.out (fun _ _ _ _ h=>h)) (HRB.out.kept HK3.out (fun _ _ _ _ h=>h))).mono ?_
 intro e w4 hp
 obtain ⟨hk4,hp1,hp2⟩:=hp
 have HK4:=qh (HK3.out.trans0 hk4)
 have HS4:=qh (HS3.out.keep hk4 (fun _ _=>id))
 have HB4:=qh (hk4.heap HB3.out id)
 clear hk4
 by_cases hR:zZer r'
 ·obtain ⟨g,cap,he,hob⟩:=hp1 hR
  subst he
  obtain ⟨E,hE⟩:∃ E,E=encM r':=⟨_,rfl⟩
  rw [<- hE] at hob ⊢
  have HE:=qh hE
  have HOB:=qh (hob.v.low (base':=w.heap.size) HK3.out.size)
  have hEl:E.length<=1100:=by rw [hE,z34p];have:=(zacl hR).2;omega
  have HR:=qh hR
  have hrm:IntKind.i64.wrap ((E.length:Nat):Int)=(E.length:Int):=by rw [IntKind.wrap_i64];omega
  clear hp1 hp2 hE hob hR
  have HROOM:=qh (z1Ea w4 q p lv tv L HS4.out.hq HOK.out)
  obtain ⟨RM,hRM⟩:∃ RM,RM=L.room:=⟨_,rfl⟩
  rw [<- hRM] at HROOM
  have HRM:=qh hRM
  clear hRM
  by_cases hfull:RM < (E.length:Int)
  ·go_wp2_with fail
   refine HROOM.out.mono ?_
   rintro e w5 ⟨rfl,nd,rfl⟩
   go_wp2
   go_ret2
   have hv:L.append r=(L,0,5):=by
    rw [HAP.out,if_neg (fun h=>h HR.out),if_pos (by rw [<- HRM.out,<- HE.out];exact hfull)]
   unfold zM8N
   rw [hv]
   exact ⟨rfl,lv,tv,HS4.out.keep ((Kept.refl (fun _=>False) _).drewN _) (fun _ _=>id),(HK4.out.drewN _).mono (fun _ _ h=>h.elim),OwnTo.refl _ _,OwnTo.refl _ _⟩
  ·go_wp2_with fail
   refine HROOM.out.mono ?_
   rintro e w5 ⟨rfl,nd,hw5⟩
   have HK5:=qh (show Kept (fun _=>False) w w5 from by rw [<- hw5];exact HK4.out.drewN _)
   have HS5:=qh (show LogS w5 q p ms mo lv tv L D from by rw [<- hw5];exact HS4.out.keep ((Kept.refl (fun _=>False) _).drewN _) (fun _ _=>id))
   have HB5:=qh (show w5.heap[y]?=some (.cells (recC r' A1 c1 A2 c2) 78 (0,0)) from by rw [<- hw5];exact HB4.out)
   have HOB5:=qh (show OwnV w5 w.heap.size (.slice (some ⟨g,0,none⟩) E.length cap) E from by rw [<- hw5];exact HOB.out.keep ((Kept.refl (fun _=>False) _).drewN _) (fun _ _=>id))
   clear hw5 HK4 HS4 HB4 HOB HROOM HB3 HK3 HS3 HPUT
   have HT5:=Lib.hid HS5.out.ht
   have cq8:w5.cell? ⟨q,8,none⟩=some tv:=zcjX HS5.out.hq rfl
   go_wp2_with (at_builtin;refine zZjY rfl _ _ rfl 0 tv L.tail E rfl HT5.out (some ⟨g,0,none⟩) E.length cap rfl rfl HOB5.out.rd (by omega) (Nat.zero_le _) ?_)
   intro tv' w6 ho6 hk6 hat6
   obtain ⟨A6,c6,rfl,_⟩:=ho6.slice
   have HO6:=qh ho6
   have HAT:=qh (hat6.late HK5.out)
   have htq:tv.ownBlock≠some q:=fun e=>(HS5.out.nt q e).1 rfl
   have HQ6:=qh (hk6.heap HS5.out.hq htq)
   have HD6:=qh (HS5.out.dev.keep hk6 (fun e=>(HS5.out.nt p e).2.1 rfl) (fun e=>(HS5.out.nt ms e).2.2.1 rfl) (fun e=>(HS5.out.nt mo e).2.2.2 rfl))
   have HL6:=qh (HS5.out.hl.keep hk6 (fun x hx e=>(HS5.out.nl x hx).2.2.2.2 e))
   have HB6:=qh (hk6.heap HB5.out (fun e=>by have:=(HS5.out.ht.base_le e).2;have:=(H.out.ht.base_le e).2;omega))
   have HK6:=qh ((HK5.out.mono (T:=fun x=>x=q\/lv.ownBlock=some x\/tv.ownBlock=some x) (fun x _ h=>h.elim)).trans hk6 (fun x _ h=>.inr (.inr h)))
   have HT6:=qh (show ∀ x,(Value.slice A6 (L.tail ++ E).length c6).ownBlock=some x->x≠q/\x≠p/\x≠ms/\x≠mo/\lv.ownBlock≠some x/\x≠y from fun x hx=>by
    rcases hat6 with h | h
    ·rw [h] at hx
     have h1:=HS5.out.nt x hx
     have h2:=(H.out.ht.base_le hx).2
     exact ⟨h1.1,h1.2.1,h1.2.2.1,h1.2.2.2,fun e=>(HS5.out.nl x e).2.2.2.2 hx,by omega⟩
    ·have h1:=h x hx
     have h2:=zvKu HS5.out.hq
     have h3:=zvKu HS5.out.dev.hp
     have h4:=HS5.out.dev.hs.lt
     have h5:=HS5.out.dev.ho.lt
     have h6:=zvKu HB5.out
     exact ⟨by omega,by omega,by omega,by omega,fun e=>by have:=(HS5.out.hl.base_le e).2;omega,by omega⟩)
   clear ho6 hk6 hat6 htq HT5 HOB5 HB5 cq8
   go_wp2_with (refine z2q7 rfl 37 _ _ rfl q 8 (.slice A6 (L.tail ++ E).length c6) (logC p lv tv L) rfl rfl HQ6.out (by kernel_rfl) (by show 8 < 10;decide) rfl ?_)
   intro w7 hb7 hk7
   have HQ7:=qh (show LogQ w7 q p lv (.slice A6 (L.tail ++ E).length c6) L from by rw [List.length_append];exact hb7)
   have HO7:=qh (HO6.out.keep hk7 (fun x hx=>(HT6.out x hx).1))
   have HL7:=qh (HL6.out.keep hk7 (fun x hx=>(HS5.out.nl x hx).1))
   have HD7:=qh (HD6.out.keep hk7 H.out.nq.1 H.out.nq.2.1 H.out.nq.2.2)
   have HB7:=qh (hk7.heap HB6.out (by have:=zvKu H.out.hq;omega))
   have HK7:=qh (HK6.out.trans hk7 (fun x _ h=>.inl h))
   clear hb7 hk7 HQ6 HO6 HL6 HD6 HB6 HK6
   go_wp2_with fail
   have hlsn:r'.lsn=L.fin:=by rw [<- HR'.out]
   have HLSN:=qh hlsn
   clear hlsn
   obtain ⟨tv',htv⟩:∃ tv',tv'=Value.slice A6 (L.tail ++ E).length c6:=⟨_,rfl⟩
   rw [<- htv] at HQ7 HO7 HT6 HAT
   have HTV:=qh htv
   clear htv
   refine znCh 11 (fun w'=>LogQ w' q p lv tv' L/\w'.heap[y]?=some (.cells (recC r' A1 c1 A2 c2) 78 (0,0))) (by kernel_rfl) ⟨HQ7.out,HB7.out⟩ (fun hH=>?_)
   simp only [List.length_cons,List.length_nil,List.replicate]
   refine tK 0 ?_ (fun w' hw'=>?_) hH ?_
   rotate_left
   ·have c7:w'.cell? ⟨q,7,none⟩=some lv:=zcjX hw'.1 rfl;have cy:w'.cell? ⟨y,0,none⟩=some (.int .i64 r'.lsn):=zcjX hw'.2 rfl
    go_simp<;>with_reducible rfl
   simp only [Act.put,oZa,oZb,oZc]
   refine tK 1 ?_ (fun w' hw'=>?_) hH ?_
   rotate_left
   ·have c7:w'.cell? ⟨q,7,none⟩=some lv:=zcjX hw'.1 rfl;have cy:w'.cell? ⟨y,0,none⟩=some (.int .i64 r'.lsn):=zcjX hw'.2 rfl
    go_simp<;>with_reducible rfl
   simp only [Act.put,oZa,oZb,oZc]
   refine tK 2 ?_ (fun w' hw'=>?_) hH ?_
   rotate_left
   ·have c7:w'.cell? ⟨q,7,none⟩=some lv:=zcjX hw'.1 rfl;have cy:w'.cell? ⟨y,0,none⟩=some (.int .i64 r'.lsn):=zcjX hw'.2 rfl
    go_simp<;>with_reducible rfl
   simp only [Act.put,oZa,oZb,oZc]
   refine tK 3 ?_ (fun w' hw'=>?_) hH ?_
   rotate_left
   ·have c7:w'.cell? ⟨q,7,none⟩=some lv:=zcjX hw'.1 rfl;have cy:w'.cell? ⟨y,0,none⟩=some (.int .i64 r'.lsn):=zcjX hw'.2 rfl
    go_simp<;>with_reducible rfl
   simp only [Act.put,oZa,oZb,oZc]
   refine tK 4 ?_ (fun w' hw'=>?_) hH ?_
   rotate_left
   ·have c7:w'.cell? ⟨q,7,none⟩=some lv:=zcjX hw'.1 rfl;have cy:w'.cell? ⟨y,0,none⟩=some (.int .i64 r'.lsn):=zcjX hw'.2 rfl
    go_simp<;>with_reducible rfl
   simp only [Act.put,oZa,oZb,oZc]
   refine tK 5 ?_ (fun w' hw'=>?_) hH ?_
   rotate_left
   ·have c7:w'.cell? ⟨q,7,none⟩=some lv:=zcjX hw'.1 rfl;have cy:w'.cell? ⟨y,0,none⟩=some (.int .i64 r'.lsn):=zcjX hw'.2 rfl
    go_simp<;>with_reducible rfl
   simp only [Act.put,oZa,oZb,oZc]
   refine tK 6 ?_ (fun w' hw'=>?_) hH ?_
   rotate_left
   ·have c7:w'.cell? ⟨q,7,none⟩=some lv:=zcjX hw'.1 rfl;have cy:w'.cell? ⟨y,0,none⟩=some (.int .i64 r'.lsn):=zcjX hw'.2 rfl
    go_simp<;>with_reducible rfl
   simp only [Act.put,oZa,oZb,oZc]
   refine stepL 7 rfl (by kernel_rfl) (fun K hK=>?_)
   go_simp
   obtain ⟨wa,hwa⟩:∃ wa,wa=(w7.alloc (.cells #[.int .i64 r'.lsn] 2)).drew:=⟨_,rfl⟩
   have ka:Kept (fun _=>False) w7 wa:=by rw [hwa];exact ((Kept.refl _ w7).alloc _).drew
   have hwn:wa.heap[w7.heap.size]?=some (.cells #[.int .i64 r'.lsn] 2 (0,0)):=by rw [hwa];exact heap_alloc_new w7 _
   have hS8:LogQ wa q p lv tv' L/\wa.heap[y]?=some (.cells (recC r' A1 c1 A2 c2) 78 (0,0)):=⟨ka.heap HQ7.out id,ka.heap HB7.out id⟩
   rw [<- hwa]
   refine hK.out _ _ (fun _=>hS8) (fun _=>?_)
   simp only [oZa,oZb,oZc]
   clear hK K hH
   have KA:=Lib.hid ka
   have HWN:=qh hwn
   have HS8:=qh hS8
   clear ka hS8 hwn hwa
   refine stepL 8 rfl (by kernel_rfl) (fun K hK=>?_)
   refine zdvN rfl _ _ (by rfl) 0 lv L.lsns r'.lsn (by rfl) (HL7.out.keep KA.out (fun _ _=>id)) w7.heap.size 1 (by rfl) (zcjX HWN.out rfl) hll (Nat.zero_le _) ?_
   intro lv' w8 ho8 hk8 hat8
   rw [HLSN.out] at ho8
   obtain ⟨A8,n8,c8,rfl,hn8⟩:=ho8.form3
   clear hn8
   have HO8:=qh ho8
   have hlq:lv.ownBlock≠some q:=fun e=>(HS5.out.nl q e).1 rfl
   have HQ8:=qh (hk8.heap HS8.out.1 hlq)
   have HB8:=qh (hk8.heap HS8.out.2 (fun e=>by have:=(H.out.hl.base_le e).2;omega))
   have HD8:=qh ((HD7.out.keep KA.out id id id).keep hk8 (fun e=>(HS5.out.nl p e).2.1 rfl) (fun e=>(HS5.out.nl ms e).2.2.1 rfl) (fun e=>(HS5.out.nl mo e).2.2.2.1 rfl))
   have HT8:=qh ((HO7.out.keep KA.out (fun _ _=>id)).keep hk8 (fun x hx e=>(HT6.out x hx).2.2.2.2.1 e))
   have HK8:=qh ((HK7.out.trans0 KA.out).trans hk8 (fun x _ h=>.inr (.inl h)))
   have HL8:=qh (show ∀ x,(Value.slice A8 n8 c8).ownBlock=some x->x≠q/\x≠p/\x≠ms/\x≠mo/\tv'.ownBlock≠some x/\x≠y from fun x hx=>by
    rcases hat8 with h | h
    ·rw [h] at hx
     have h1:=HS5.out.nl x hx
     have h2:=(H.out.hl.base_le hx).2
     exact ⟨h1.1,h1.2.1,h1.2.2.1,h1.2.2.2.1,fun e=>(HT6.out x e).2.2.2.2.1 hx,by omega⟩
    ·have h1:=h x hx
     have h0:=KA.out.size
     have h2:=zvKu HQ7.out
     have h3:=zvKu HD7.out.hp
     have h4:=HD7.out.hs.lt
     have h5:=HD7.out.ho.lt
     have h6:=zvKu HB7.out
     exact ⟨by omega,by omega,by omega,by omega,fun e=>by have:=(HO7.out.base_le e).2;omega,by omega⟩)
   have HLAT:=qh (show OwnTo w lv (Value.slice A8 n8 c8) from by
    rcases hat8 with h | h
    ·exact .inl h
    ·exact .inr (fun x hx=>by have h1:=h x hx;have h2:=KA.out.size;have h3:=HK7.out.size;omega))
   clear ho8 hk8 hat8 hlq HS8 HL7 HB7 HD7 HO7 HK7 HQ7
   refine hK.out _ _ (fun _=>⟨HQ8.out,HB8.out⟩) (fun hH=>?_)
   simp only [Act.put,oZa,oZb,oZc]
   clear hK K
   refine stepL 9 rfl (by kernel_rfl) (fun K hK=>?_)
   go_simp
   refine hK.out _ _ (fun _=>⟨HQ8.out,HB8.out⟩) (fun hH=>?_)
   simp only [oZa,oZb,oZc]
   clear hK K
   refine stepL 10 rfl (by kernel_rfl) (fun K hK=>?_)
   go_simp
   refine hK.out _ _ (fun _=>⟨HQ8.out,HB8.out⟩) (fun hH=>?_)
   simp only [oZa,oZb,oZc]
   clear hK K
   refine stepL 11 rfl (by kernel_rfl) (fun K hK=>?_)
   refine zRRc rfl 102 _ _ (by rfl) q 7 (.slice A8 n8 c8) (logC p lv tv' L) (by rfl) (by rfl) HQ8.out (by kernel_rfl) (by show 7 < 10;decide) rfl ?_
   intro w9 hb9 hk9
   have HQ9:=qh (show LogQ w9 q p (.slice A8 n8 c8) tv' L from hb9)
   have HO9:=qh (HO8.out.keep hk9 (fun x hx=>(HL8.out x hx).1))
   have HT9:=qh (HT8.out.keep hk9 (fun x hx=>(HT6.out x hx).1))
   have HD9:=qh (HD8.out.keep hk9 H.out.nq.1 H.out.nq.2.1 H.out.nq.2.2)
   have HB9:=qh (hk9.heap HB8.out (by have:=zvKu H.out.hq;omega))
   have HK9:=qh (HK8.out.trans hk9 (fun x _ h=>.inl h))
   clear hb9 hk9 HQ8 HO8 HT8 HD8 HB8 HK8
   refine hK.out _ _ (fun h=>absurd rfl h) (fun _=>?_)
   simp only [Act.put,oZa,oZb,oZc]
   clear hK K hH
   refine doneL (by kernel_rfl) ?_ _
   have b0:=HOK.out.o0
   have b1:=HOK.out.o1
   have b2:=HOK.out.e1
   have cq5:w9.cell? ⟨q,5,none⟩=some (.int .i64 L.fin):=zcjX HQ9.out rfl
   have cy0:w9.cell? ⟨y,0,none⟩=some (.int .i64 r'.lsn):=zcjX HB9.out rfl
   have qy2:(y == q)=false:=by simp;have:=zvKu H.out.hq;omega
   obtain ⟨FI,hFI⟩:∃ FI,FI=L.fin:=⟨_,rfl⟩
   rw [<- hFI] at cq5 b1 b2
   have HFI:=qh hFI
   clear hFI
   go_wp2_with (refine z2q7 rfl 2 _ _ rfl q 5 (.int .i64 (FI+(E.length:Int))) (logC p (.slice A8 n8 c8) tv' L) rfl rfl HQ9.out (by kernel_rfl) (by show 5 < 10;decide) rfl ?_)
   intro w10 hb10 hk10
   have HB10:=qh (hk10.heap HB9.out (by have:=zvKu H.out.hq;omega))
   have cy1:w10.cell? ⟨y,0,none⟩=some (.int .i64 r'.lsn):=zcjX HB10.out rfl
   have HQ10:=qh hb10
   have HO10:=qh (HO9.out.keep hk10 (fun x hx=>(HL8.out x hx).1))
   have HT10:=qh (HT9.out.keep hk10 (fun x hx=>(HT6.out x hx).1))
   have HD10:=qh (HD9.out.keep hk10 H.out.nq.1 H.out.nq.2.1 H.out.nq.2.2)
   have HK10:=qh (HK9.out.trans hk10 (fun x _ h=>.inl h))
   clear hb10 hk10 cy0 cq5
   go_wp2
   go_ret2
   have hv:L.append r=({ L with tail:=L.tail ++ E,lsns:=L.lsns ++ [L.fin],fin:=L.fin+E.length },L.fin,0):=by
    rw [HAP.out,if_neg (fun h=>h HR.out),if_neg (by rw [<- HRM.out,<- HE.out];omega),<- HE.out]
   unfold zM8N
   rw [hv]
   refine ⟨by show Ending.returned (.tuple #[.int .i64 r'.lsn,.int .i64 0])=Ending.returned (.tuple #[.int .i64 L.fin,.int .i64 0]);rw [HLSN.out],_,tv',⟨HD10.out,?_,HO10.out,HT10.out,H.out.nq,fun x hx=>?_,fun x hx=>?_⟩,HK10.out,HLAT.out,HAT.out⟩
   ·have h:=HQ10.out
    rw [HFI.out] at h
    exact h
   ·have h:=HL8.out x hx
    exact ⟨h.1,h.2.1,h.2.2.1,h.2.2.2.1,h.2.2.2.2.1⟩
   ·have h:=HT6.out x hx
    exact ⟨h.1,h.2.1,h.2.2.1,h.2.2.2.1⟩
 ·have he:=hp2 hR
  subst he
  have HR:=qh hR
  clear hp1 hp2 hR
  go_wp2
  go_ret2
  have hv:L.append r=(L,0,4):=by rw [HAP.out,if_pos HR.out]
  unfold zM8N
  rw [hv]
  exact ⟨rfl,lv,tv,HS4.out,HK4.out.mono (fun _ _ h=>h.elim),OwnTo.refl _ _,OwnTo.refl _ _⟩
end Go.Proofs.Ytnbfhdgojmflhaa
