/-
  No statement is proved here.
-/
import Derived.Test.YtfgagakepmigbaaGreatJLge
import Derived.Deep.QuietTactic
import Derived.BigQuiet
import Derived.Deep.LoopGhost
import Derived.Deep.CutBlock
namespace Go.Proofs.YtfgagakepmigbaaGreat
open Go.RowKit
theorem zl7L (a t u:Int) (w:World) (a0:0<=a) (a1:a<=9223372036854775807) (t0:0<=t) (t1:t<=9223372036854775807) (u0:0<=u) (u1:u<=255) :
  Calls Tryz.prog 88 #[.int .i64 a,.int .i64 t,.int .i64 u] w fun e w'=>∃ v,e=.returned v/\OwnV w' w.heap.size v (z7b5 a.toNat t.toNat u.toNat)/\Kept (fun _=>False) w w':=by
 have SZ:=qh (Nat.le_refl w.heap.size)
 obtain ⟨base,hbase⟩:∃ base,base=w.heap.size:=⟨_,rfl⟩
 rw [<- hbase] at SZ ⊢
 have HB:=qh hbase.symm
 clear hbase
 have eu:u % 256=u:=by omega
 go_enter Tryz.func88,Tryz.ntmps88
 go_wp2_with fail
 refine (zziy _ [] a 8 base w (OwnV.nil _ _) (Nat.le_of_eq HB.out.symm) a0 a1 (by decide) (by decide)).mono ?_
 rintro e w1 ⟨v1,rfl,ho1,hk1⟩
 have HO1:=qh ho1
 have K1:=qh hk1
 clear ho1 hk1
 go_wp2_with fail
 refine (zziy v1 _ t 4 base w1 HO1.out (by have:=K1.out.size;have:=HB.out;omega) t0 t1 (by decide) (by simp [zmTu])).mono ?_
 rintro e w2 ⟨v2,rfl,ho2,hk2⟩
 have K2:=qh (K1.out.trans' hk2)
 have HO2:=qh ho2
 clear ho2 hk2 HO1 K1
 have ka:Kept (fun _=>False) w2 (w2.alloc (.cells #[.int .u8 u] 5)):=(Kept.refl _ w2).alloc _
 have KA:=Lib.hid ka
 have HO3:=qh (HO2.out.keep ka (fun _ _ h=>h))
 have HBY:=qh (show (w2.alloc (.cells (cellsOf [UInt8.ofNat u.toNat]) 5)).heap[w2.heap.size]?=some (.cells (cellsOf [UInt8.ofNat u.toNat]) 5 (0,0)) from heap_alloc_new w2 _)
 have ec:cellsOf [UInt8.ofNat u.toNat]=#[.int .u8 u]:=by
  show #[Value.int .u8 (((UInt8.ofNat u.toNat).toNat:Nat):Int)]=_
  rw [UInt8.toNat_ofNat']
  congr 3
  omega
 rw [ec] at HBY
 have EC:=Lib.hid ec
 clear ka ec
 go_wp2_with (at_builtin;refine zZjY rfl _ _ rfl base _ ([] ++ beN a.toNat 8 ++ beN t.toNat 4) [UInt8.ofNat u.toNat] rfl HO3.out (some ⟨w2.heap.size,0,none⟩) 1 1 rfl rfl (RdB.of_blk (by rw [EC.out];exact HBY.out)) (by simp [zmTu]) (by have:=K2.out.size;have:=KA.out.size;have:=HB.out;omega) ?_)
 intro v3 w3 ho3 hk3 hat3
 have HO4:=qh ho3
 have K3:=qh ((K2.out.trans' (KA.out.mono (fun _ _ h=>h.elim))).trans hk3 (fun x _ e=>(HO3.out.base_le e).1))
 clear ho3 hk3 hat3
 go_wp2
 go_ret
 refine ⟨v3,rfl,?_,?_⟩
 ·exact HO4.out
 ·exact K3.out.mono (fun x hx h=>by have:=HB.out;omega)
theorem z1Ea (w:World) (q p:Nat) (lv tv:Value) (L:LogM) (h:LogQ w q p lv tv L) (hok:LogOk L) :
  Calls Tryz.prog 41 #[.pointer (some ⟨q,0,none⟩)] w fun e w'=>e=.returned (.int .i64 L.room)/\Same w w':=by
 have HT:=qh (fun wx (h:LogQ wx q p lv tv L)=>zATj wx q p lv tv L h)
 have HS:=qh (fun n=>znpN (w.drewN n) q p lv tv L h hok)
 have H:=qh h
 have c5:w.cell? ⟨q,5,none⟩=some (.int .i64 L.fin):=zcjX h rfl
 have c4:w.cell? ⟨q,4,none⟩=some (.int .i64 L.oldest):=zcjX h rfl
 have h1:=hok.c0
 have h2:=hok.c1
 have h3:=hok.o0
 have h4:=hok.o1
 have h5:=hok.e1
 have e1:L.room=L.count*408 - 408 - (L.fin - L.oldest):=rfl
 rw [e1]
 have r1:IntKind.i64.wrap (L.count*408 - 408)=L.count*408 - 408:=by rw [IntKind.wrap_i64];omega
 have r2:IntKind.i64.wrap (L.fin - L.oldest)=L.fin - L.oldest:=by rw [IntKind.wrap_i64];omega
 have r3:IntKind.i64.wrap (L.count*408 - 408 - (L.fin - L.oldest))=L.count*408 - 408 - (L.fin - L.oldest):=by rw [IntKind.wrap_i64];omega
 clear h hok e1
 go_enter Tryz.func41,Tryz.ntmps41
 go_wp2_with fail
 refine (HT.out w H.out).mono ?_
 rintro e wx ⟨rfl,rfl⟩
 go_wp2_with fail
 go_quiet (first | (go_at_call 80;exact (HS.out _).mono (fun _ _ h=>⟨h.1,_,h.2.symm⟩)))
 go_wp2
 go_ret
 exact ⟨rfl,_,rfl⟩
def zM8N (w:World) (q p ms mo:Nat) (lv tv:Value) (L:LogM) (D:DevM) (r:RecM) (e:Ending) (w':World):Prop:=e=.returned (.tuple #[.int .i64 (L.append r).2.1,.int .i64 (L.append r).2.2]) /\
 ∃ lv' tv',LogS w' q p ms mo lv' tv' (L.append r).1 D/\Kept (fun x=>x=q\/lv.ownBlock=some x\/tv.ownBlock=some x) w w'/\OwnTo w lv lv'/\OwnTo w tv tv'
theorem OwnTo.refl (w:World) (v:Value):OwnTo w v v:=.inl rfl
theorem OwnTo.late {S:Nat->Prop} {w w0:World} {v v':Value} (h:OwnTo w v v') (hk:Kept S w0 w):OwnTo w0 v v':=by
 rcases h with h | h
 ·exact .inl h
 ·exact .inr (fun x hx=>Nat.le_trans hk.size (h x hx))
theorem zgVu (r:RecM) (A1:Option Addr) (c1:Nat) (A2:Option Addr) (c2:Nat) (a t:Int):((recC r A1 c1 A2 c2).setIfInBounds 0 (.int .i64 a)).setIfInBounds 1 (.int .i64 t)=recC { r with lsn:=a,turn:=t } A1 c1 A2 c2:=rfl
set_option maxRecDepth 100000 in
set_option maxHeartbeats 1600000 in
theorem z0zc (w:World) (q p ms mo:Nat) (lv tv:Value) (L:LogM) (D:DevM) (h:LogS w q p ms mo lv tv L D) (hok:LogOk L) (ht:isI L.turn) (htl:L.tail.length<=100000000000000) (hll:L.lsns.length<=1000000000)
  (r:RecM) (A1:Option Addr) (c1:Nat) (A2:Option Addr) (c2:Nat) (ho:RecOk r) (h1:r.old.length<=1000000) (h2:r.new.length<=1000000) (hr1:RdB w A1 r.old) (hr2:RdB w A2 r.new) :
  Calls Tryz.prog 85 #[.pointer (some ⟨q,0,none⟩),zz52 r A1 c1 A2 c2] w (zM8N w q p ms mo lv tv L D r):=by
 have H:=qh h
 have HOK:=qh hok
 have hv:zz52 r A1 c1 A2 c2=.agg (recC r A1 c1 A2 c2):=rfl
 rw [hv]
 have hfi:isI L.fin:=by have:=hok.o0;have:=hok.o1;have:=hok.e1;unfold isI;omega
 obtain ⟨r',hr'⟩:∃ r':RecM,r'={ r with lsn:=L.fin,turn:=L.turn }:=⟨_,rfl⟩
 have HR':=qh hr'.symm
 have ho':RecOk r':=by rw [hr'];exact ⟨hfi,ht,ho.tx,ho.prev,ho.next,ho.blk,ho.off⟩
 have hold:r'.old=r.old:=by rw [hr']
 have hnew:r'.new=r.new:=by rw [hr']
 have HRA:=qh hr1
 have HRB:=qh hr2
 have HPUT:=qh (fun wx (k1:RdB wx A1 r.old) (k2:RdB wx A2 r.new)=>zaP4 r' A1 c1 A2 c2 wx ho' (by rw [hold];exact h1) (by rw [hnew];exact h2) (by rw [hold];exact k1) (by rw [hnew];exact k2))
 have HAP:=qh (show L.append r=if ¬ zZer r' then (L,0,4) else if L.room < ((encM r').length:Int) then (L,0,5) else ({ L with tail:=L.tail ++ encM r',lsns:=L.lsns ++ [L.fin],fin:=L.fin+(encM r').length },L.fin,0) from by rw [hr'];rfl)
 have HTH:=qh (zATj w q p lv tv L h.hq)
 clear hv hr' ho' hold hnew hr1 hr2 h hok ho
 go_enter Tryz.func85,Tryz.ntmps85
 go_wp2_with (refine znBH rfl 86 _ rfl (.agg (recC r A1 c1 A2 c2)) rfl ?_)
 intro y w1 y1 y2 hb1 hk1
 have HB1:=qh (show w1.heap[y]?=some (.cells (recC r A1 c1 A2 c2) 86 (0,0)) from hb1)
 have HK1:=qh hk1
 have HS1:=qh (H.out.keep hk1 (fun _ _=>id))
 clear hb1 hk1 HTH
 have HTH:=qh (zATj w1 q p lv tv L HS1.out.hq)
 go_wp2_with fail
 refine HTH.out.mono ?_
 rintro e wx ⟨rfl,rfl⟩
 go_wp2_with fail
 refine znCh 11 (fun w'=>LogQ w' q p lv tv L) (by kernel_rfl) HS1.out.hq (fun hH=>?_)
 simp only [List.length_cons,List.length_nil,List.replicate]
 refine tK 0 ?_ (fun w' hw'=>?_) hH ?_
 rotate_left
 ·have c5:w'.cell? ⟨q,5,none⟩=some (.int .i64 L.fin):=zcjX hw' rfl;have c3:w'.cell? ⟨q,3,none⟩=some (.int .i64 L.turn):=zcjX hw' rfl
  go_simp<;>with_reducible rfl
 simp only [Act.put,oZa,oZb,oZc]
 refine tK 1 ?_ (fun w' hw'=>?_) hH ?_
 rotate_left
 ·have c5:w'.cell? ⟨q,5,none⟩=some (.int .i64 L.fin):=zcjX hw' rfl;have c3:w'.cell? ⟨q,3,none⟩=some (.int .i64 L.turn):=zcjX hw' rfl
  go_simp<;>with_reducible rfl
 simp only [Act.put,oZa,oZb,oZc]
 refine tK 2 ?_ (fun w' hw'=>?_) hH ?_
 rotate_left
 ·have c5:w'.cell? ⟨q,5,none⟩=some (.int .i64 L.fin):=zcjX hw' rfl;have c3:w'.cell? ⟨q,3,none⟩=some (.int .i64 L.turn):=zcjX hw' rfl
  go_simp<;>with_reducible rfl
 simp only [Act.put,oZa,oZb,oZc]
 refine tK 3 ?_ (fun w' hw'=>?_) hH ?_
 rotate_left
 ·have c5:w'.cell? ⟨q,5,none⟩=some (.int .i64 L.fin):=zcjX hw' rfl;have c3:w'.cell? ⟨q,3,none⟩=some (.int .i64 L.turn):=zcjX hw' rfl
  go_simp<;>with_reducible rfl
 simp only [Act.put,oZa,oZb,oZc]
 refine tK 4 ?_ (fun w' hw'=>?_) hH ?_
 rotate_left
 ·have c5:w'.cell? ⟨q,5,none⟩=some (.int .i64 L.fin):=zcjX hw' rfl;have c3:w'.cell? ⟨q,3,none⟩=some (.int .i64 L.turn):=zcjX hw' rfl
  go_simp<;>with_reducible rfl
 simp only [Act.put,oZa,oZb,oZc]
 refine tK 5 ?_ (fun w' hw'=>?_) hH ?_
 rotate_left
 ·have c5:w'.cell? ⟨q,5,none⟩=some (.int .i64 L.fin):=zcjX hw' rfl;have c3:w'.cell? ⟨q,3,none⟩=some (.int .i64 L.turn):=zcjX hw' rfl
  go_simp<;>with_reducible rfl
 simp only [Act.put,oZa,oZb,oZc]
 refine tK 6 ?_ (fun w' hw'=>?_) hH ?_
 rotate_left
 ·have c5:w'.cell? ⟨q,5,none⟩=some (.int .i64 L.fin):=zcjX hw' rfl;have c3:w'.cell? ⟨q,3,none⟩=some (.int .i64 L.turn):=zcjX hw' rfl
  go_simp<;>with_reducible rfl
 simp only [Act.put,oZa,oZb,oZc]
 refine tK 7 ?_ (fun w' hw'=>?_) hH ?_
 rotate_left
 ·have c5:w'.cell? ⟨q,5,none⟩=some (.int .i64 L.fin):=zcjX hw' rfl;have c3:w'.cell? ⟨q,3,none⟩=some (.int .i64 L.turn):=zcjX hw' rfl
  go_simp<;>with_reducible rfl
 simp only [Act.put,oZa,oZb,oZc]
 refine tK 8 ?_ (fun w' hw'=>?_) hH ?_
 rotate_left
 ·have c5:w'.cell? ⟨q,5,none⟩=some (.int .i64 L.fin):=zcjX hw' rfl;have c3:w'.cell? ⟨q,3,none⟩=some (.int .i64 L.turn):=zcjX hw' rfl
  go_simp<;>with_reducible rfl
 simp only [Act.put,oZa,oZb,oZc]
 refine stepL 9 rfl (by kernel_rfl) (fun K hK=>?_)
 refine zRRc rfl 2 _ _ (by rfl) y 0 (.int .i64 L.fin) (recC r A1 c1 A2 c2) (by rfl) (by rfl) HB1.out (by kernel_rfl) (by show 0 < 10;decide) rfl ?_
 intro w2 hb2 hk2
 have HB2:=qh hb2
 have qy:q≠y:=fun e=>by have:=zvKu H.out.hq;omega
 have HQ2:=qh (hk2.heap HS1.out.hq qy)
 have HK2:=qh (HK1.out.drew.new hk2 (by rintro x rfl;exact y1))
 clear hb2 hk2
 refine hK.out _ _ (fun _=>HQ2.out) (fun _=>?_)
 simp only [Act.put,oZa,oZb,oZc]
 clear hK K
 refine stepL 10 rfl (by kernel_rfl) (fun K hK=>?_)
 go_simp
 refine hK.out _ _ (fun _=>HQ2.out) (fun _=>?_)
 simp only [oZa,oZb,oZc]
 clear hK K
 refine stepL 11 rfl (by kernel_rfl) (fun K hK=>?_)
 refine zRRc rfl 2 _ _ (by rfl) y 1 (.int .i64 L.turn) ((recC r A1 c1 A2 c2).setIfInBounds 0 (.int .i64 L.fin)) (by rfl) (by rfl) HB2.out (by kernel_rfl) (by show 1 < 10;decide) rfl ?_
 intro w3 hb3 hk3
 rw [zgVu,HR'.out] at hb3
 have HB3:=qh hb3
 have HK3:=qh (HK2.out.new hk3 (by rintro x rfl;exact y1))
 clear hb3 hk3
 refine hK.out _ _ (fun h=>absurd rfl h) (fun _=>?_)
 simp only [Act.put,oZa,oZb,oZc]
 clear hK K hH
 refine doneL (by kernel_rfl) ?_ _
 have HS3:=qh (H.out.keep HK3.out (fun _ _=>id))
 clear HS1 HQ2 HB1 HB2 HK1 HK2
 go_wp2_with (refine zFcC rfl 86 _ rfl y rfl (recC r' A1 c1 A2 c2) HB3.out Tryz.underlying86 rfl zWmC ?_)
 refine (HPUT.out w3 (HRA.out.kept HK3.out (fun _ _ _ _ h=>h)) (HRB.out.kept HK3.out (fun _ _ _ _ h=>h))).mono ?_
 intro e w4 hp
 obtain ⟨hk4,hp1,hp2⟩:=hp
 have HK4:=qh (HK3.out.trans0 hk4)
 have HS4:=qh (HS3.out.keep hk4 (fun _ _=>id))
 have HB4:=qh (hk4.heap HB3.out id)
 clear hk4
 by_cases hR:zZer r'
 ·obtain ⟨g,cap,he,hob⟩:=hp1 hR
  subst he
  obtain ⟨E,hE⟩:∃ E,E=encM r':=⟨_,rfl⟩
  rw [<- hE] at hob ⊢
  have HE:=qh hE
  have HOB:=qh (hob.v.low (base':=w.heap.size) HK3.out.size)
  have hEl:E.length<=1100:=by rw [hE,z34p];have:=(zacl hR).2;omega
  have HR:=qh hR
  have hrm:IntKind.i64.wrap ((E.length:Nat):Int)=(E.length:Int):=by rw [IntKind.wrap_i64];omega
  clear hp1 hp2 hE hob hR
  have HROOM:=qh (z1Ea w4 q p lv tv L HS4.out.hq HOK.out)
  obtain ⟨RM,hRM⟩:∃ RM,RM=L.room:=⟨_,rfl⟩
  rw [<- hRM] at HROOM
  have HRM:=qh hRM
  clear hRM
  by_cases hfull:RM < (E.length:Int)
  ·go_wp2_with fail
   refine HROOM.out.mono ?_
   rintro e w5 ⟨rfl,nd,rfl⟩
   go_wp2
   go_ret2
   have hv:L.append r=(L,0,5):=by
    rw [HAP.out,if_neg (fun h=>h HR.out),if_pos (by rw [<- HRM.out,<- HE.out];exact hfull)]
   unfold zM8N
   rw [hv]
   exact ⟨rfl,lv,tv,HS4.out.keep ((Kept.refl (fun _=>False) _).drewN _) (fun _ _=>id),(HK4.out.drewN _).mono (fun _ _ h=>h.elim),OwnTo.refl _ _,OwnTo.refl _ _⟩
  ·go_wp2_with fail
   refine HROOM.out.mono ?_
   rintro e w5 ⟨rfl,nd,hw5⟩
   have HK5:=qh (show Kept (fun _=>False) w w5 from by rw [<- hw5];exact HK4.out.drewN _)
   have HS5:=qh (show LogS w5 q p ms mo lv tv L D from by rw [<- hw5];exact HS4.out.keep ((Kept.refl (fun _=>False) _).drewN _) (fun _ _=>id))
   have HB5:=qh (show w5.heap[y]?=some (.cells (recC r' A1 c1 A2 c2) 86 (0,0)) from by rw [<- hw5];exact HB4.out)
   have HOB5:=qh (show OwnV w5 w.heap.size (.slice (some ⟨g,0,none⟩) E.length cap) E from by rw [<- hw5];exact HOB.out.keep ((Kept.refl (fun _=>False) _).drewN _) (fun _ _=>id))
   clear hw5 HK4 HS4 HB4 HOB HROOM HB3 HK3 HS3 HPUT
   have HT5:=Lib.hid HS5.out.ht
   have cq8:w5.cell? ⟨q,8,none⟩=some tv:=zcjX HS5.out.hq rfl
   go_wp2_with (at_builtin;refine zZjY rfl _ _ rfl 0 tv L.tail E rfl HT5.out (some ⟨g,0,none⟩) E.length cap rfl rfl HOB5.out.rd (by omega) (Nat.zero_le _) ?_)
   intro tv' w6 ho6 hk6 hat6
   obtain ⟨A6,c6,rfl,_⟩:=ho6.slice
   have HO6:=qh ho6
   have HAT:=qh (hat6.late HK5.out)
   have htq:tv.ownBlock≠some q:=fun e=>(HS5.out.nt q e).1 rfl
   have HQ6:=qh (hk6.heap HS5.out.hq htq)
   have HD6:=qh (HS5.out.dev.keep hk6 (fun e=>(HS5.out.nt p e).2.1 rfl) (fun e=>(HS5.out.nt ms e).2.2.1 rfl) (fun e=>(HS5.out.nt mo e).2.2.2 rfl))
   have HL6:=qh (HS5.out.hl.keep hk6 (fun x hx e=>(HS5.out.nl x hx).2.2.2.2 e))
   have HB6:=qh (hk6.heap HB5.out (fun e=>by have:=(HS5.out.ht.base_le e).2;have:=(H.out.ht.base_le e).2;omega))
   have HK6:=qh ((HK5.out.mono (T:=fun x=>x=q\/lv.ownBlock=some x\/tv.ownBlock=some x) (fun x _ h=>h.elim)).trans hk6 (fun x _ h=>.inr (.inr h)))
   have HT6:=qh (show ∀ x,(Value.slice A6 (L.tail ++ E).length c6).ownBlock=some x->x≠q/\x≠p/\x≠ms/\x≠mo/\lv.ownBlock≠some x/\x≠y from fun x hx=>by
    rcases hat6 with h | h
    ·rw [h] at hx
     have h1:=HS5.out.nt x hx
     have h2:=(H.out.ht.base_le hx).2
     exact ⟨h1.1,h1.2.1,h1.2.2.1,h1.2.2.2,fun e=>(HS5.out.nl x e).2.2.2.2 hx,by omega⟩
    ·have h1:=h x hx
     have h2:=zvKu HS5.out.hq
     have h3:=zvKu HS5.out.dev.hp
     have h4:=HS5.out.dev.hs.lt
     have h5:=HS5.out.dev.ho.lt
     have h6:=zvKu HB5.out
     exact ⟨by omega,by omega,by omega,by omega,fun e=>by have:=(HS5.out.hl.base_le e).2;omega,by omega⟩)
   clear ho6 hk6 hat6 htq HT5 HOB5 HB5 cq8
   go_wp2_with (refine z2q7 rfl 47 _ _ rfl q 8 (.slice A6 (L.tail ++ E).length c6) (logC p lv tv L) rfl rfl HQ6.out (by kernel_rfl) (by show 8 < 10;decide) rfl ?_)
   intro w7 hb7 hk7
   have HQ7:=qh (show LogQ w7 q p lv (.slice A6 (L.tail ++ E).length c6) L from by rw [List.length_append];exact hb7)
   have HO7:=qh (HO6.out.keep hk7 (fun x hx=>(HT6.out x hx).1))
   have HL7:=qh (HL6.out.keep hk7 (fun x hx=>(HS5.out.nl x hx).1))
   have HD7:=qh (HD6.out.keep hk7 H.out.nq.1 H.out.nq.2.1 H.out.nq.2.2)
   have HB7:=qh (hk7.heap HB6.out (by have:=zvKu H.out.hq;omega))
   have HK7:=qh (HK6.out.trans hk7 (fun x _ h=>.inl h))
   clear hb7 hk7 HQ6 HO6 HL6 HD6 HB6 HK6
   go_wp2_with fail
   have hlsn:r'.lsn=L.fin:=by rw [<- HR'.out]
   have HLSN:=qh hlsn
   clear hlsn
   obtain ⟨tv',htv⟩:∃ tv',tv'=Value.slice A6 (L.tail ++ E).length c6:=⟨_,rfl⟩
   rw [<- htv] at HQ7 HO7 HT6 HAT
   have HTV:=qh htv
   clear htv
   refine znCh 11 (fun w'=>LogQ w' q p lv tv' L/\w'.heap[y]?=some (.cells (recC r' A1 c1 A2 c2) 86 (0,0))) (by kernel_rfl) ⟨HQ7.out,HB7.out⟩ (fun hH=>?_)
   simp only [List.length_cons,List.length_nil,List.replicate]
   refine tK 0 ?_ (fun w' hw'=>?_) hH ?_
   rotate_left
   ·have c7:w'.cell? ⟨q,7,none⟩=some lv:=zcjX hw'.1 rfl;have cy:w'.cell? ⟨y,0,none⟩=some (.int .i64 r'.lsn):=zcjX hw'.2 rfl
    go_simp<;>with_reducible rfl
   simp only [Act.put,oZa,oZb,oZc]
   refine tK 1 ?_ (fun w' hw'=>?_) hH ?_
   rotate_left
   ·have c7:w'.cell? ⟨q,7,none⟩=some lv:=zcjX hw'.1 rfl;have cy:w'.cell? ⟨y,0,none⟩=some (.int .i64 r'.lsn):=zcjX hw'.2 rfl
    go_simp<;>with_reducible rfl
   simp only [Act.put,oZa,oZb,oZc]
   refine tK 2 ?_ (fun w' hw'=>?_) hH ?_
   rotate_left
   ·have c7:w'.cell? ⟨q,7,none⟩=some lv:=zcjX hw'.1 rfl;have cy:w'.cell? ⟨y,0,none⟩=some (.int .i64 r'.lsn):=zcjX hw'.2 rfl
    go_simp<;>with_reducible rfl
   simp only [Act.put,oZa,oZb,oZc]
   refine tK 3 ?_ (fun w' hw'=>?_) hH ?_
   rotate_left
   ·have c7:w'.cell? ⟨q,7,none⟩=some lv:=zcjX hw'.1 rfl;have cy:w'.cell? ⟨y,0,none⟩=some (.int .i64 r'.lsn):=zcjX hw'.2 rfl
    go_simp<;>with_reducible rfl
   simp only [Act.put,oZa,oZb,oZc]
   refine tK 4 ?_ (fun w' hw'=>?_) hH ?_
   rotate_left
   ·have c7:w'.cell? ⟨q,7,none⟩=some lv:=zcjX hw'.1 rfl;have cy:w'.cell? ⟨y,0,none⟩=some (.int .i64 r'.lsn):=zcjX hw'.2 rfl
    go_simp<;>with_reducible rfl
   simp only [Act.put,oZa,oZb,oZc]
   refine tK 5 ?_ (fun w' hw'=>?_) hH ?_
   rotate_left
   ·have c7:w'.cell? ⟨q,7,none⟩=some lv:=zcjX hw'.1 rfl;have cy:w'.cell? ⟨y,0,none⟩=some (.int .i64 r'.lsn):=zcjX hw'.2 rfl
    go_simp<;>with_reducible rfl
   simp only [Act.put,oZa,oZb,oZc]
   refine tK 6 ?_ (fun w' hw'=>?_) hH ?_
   rotate_left
   ·have c7:w'.cell? ⟨q,7,none⟩=some lv:=zcjX hw'.1 rfl;have cy:w'.cell? ⟨y,0,none⟩=some (.int .i64 r'.lsn):=zcjX hw'.2 rfl
    go_simp<;>with_reducible rfl
   simp only [Act.put,oZa,oZb,oZc]
   refine stepL 7 rfl (by kernel_rfl) (fun K hK=>?_)
   go_simp
   obtain ⟨wa,hwa⟩:∃ wa,wa=(w7.alloc (.cells #[.int .i64 r'.lsn] 2)).drew:=⟨_,rfl⟩
   have ka:Kept (fun _=>False) w7 wa:=by rw [hwa];exact ((Kept.refl _ w7).alloc _).drew
   have hwn:wa.heap[w7.heap.size]?=some (.cells #[.int .i64 r'.lsn] 2 (0,0)):=by rw [hwa];exact heap_alloc_new w7 _
   have hS8:LogQ wa q p lv tv' L/\wa.heap[y]?=some (.cells (recC r' A1 c1 A2 c2) 86 (0,0)):=⟨ka.heap HQ7.out id,ka.heap HB7.out id⟩
   rw [<- hwa]
   refine hK.out _ _ (fun _=>hS8) (fun _=>?_)
   simp only [oZa,oZb,oZc]
   clear hK K hH
   have KA:=Lib.hid ka
   have HWN:=qh hwn
   have HS8:=qh hS8
   clear ka hS8 hwn hwa
   refine stepL 8 rfl (by kernel_rfl) (fun K hK=>?_)
   refine zdvN rfl _ _ (by rfl) 0 lv L.lsns r'.lsn (by rfl) (HL7.out.keep KA.out (fun _ _=>id)) w7.heap.size 1 (by rfl) (zcjX HWN.out rfl) hll (Nat.zero_le _) ?_
   intro lv' w8 ho8 hk8 hat8
   rw [HLSN.out] at ho8
   obtain ⟨A8,n8,c8,rfl,hn8⟩:=ho8.form3
   clear hn8
   have HO8:=qh ho8
   have hlq:lv.ownBlock≠some q:=fun e=>(HS5.out.nl q e).1 rfl
   have HQ8:=qh (hk8.heap HS8.out.1 hlq)
   have HB8:=qh (hk8.heap HS8.out.2 (fun e=>by have:=(H.out.hl.base_le e).2;omega))
   have HD8:=qh ((HD7.out.keep KA.out id id id).keep hk8 (fun e=>(HS5.out.nl p e).2.1 rfl) (fun e=>(HS5.out.nl ms e).2.2.1 rfl) (fun e=>(HS5.out.nl mo e).2.2.2.1 rfl))
   have HT8:=qh ((HO7.out.keep KA.out (fun _ _=>id)).keep hk8 (fun x hx e=>(HT6.out x hx).2.2.2.2.1 e))
   have HK8:=qh ((HK7.out.trans0 KA.out).trans hk8 (fun x _ h=>.inr (.inl h)))
   have HL8:=qh (show ∀ x,(Value.slice A8 n8 c8).ownBlock=some x->x≠q/\x≠p/\x≠ms/\x≠mo/\tv'.ownBlock≠some x/\x≠y from fun x hx=>by
    rcases hat8 with h | h
    ·rw [h] at hx
     have h1:=HS5.out.nl x hx
     have h2:=(H.out.hl.base_le hx).2
     exact ⟨h1.1,h1.2.1,h1.2.2.1,h1.2.2.2.1,fun e=>(HT6.out x e).2.2.2.2.1 hx,by omega⟩
    ·have h1:=h x hx
     have h0:=KA.out.size
     have h2:=zvKu HQ7.out
     have h3:=zvKu HD7.out.hp
     have h4:=HD7.out.hs.lt
     have h5:=HD7.out.ho.lt
     have h6:=zvKu HB7.out
     exact ⟨by omega,by omega,by omega,by omega,fun e=>by have:=(HO7.out.base_le e).2;omega,by omega⟩)
   have HLAT:=qh (show OwnTo w lv (Value.slice A8 n8 c8) from by
    rcases hat8 with h | h
    ·exact .inl h
    ·exact .inr (fun x hx=>by have h1:=h x hx;have h2:=KA.out.size;have h3:=HK7.out.size;omega))
   clear ho8 hk8 hat8 hlq HS8 HL7 HB7 HD7 HO7 HK7 HQ7
   refine hK.out _ _ (fun _=>⟨HQ8.out,HB8.out⟩) (fun hH=>?_)
   simp only [Act.put,oZa,oZb,oZc]
   clear hK K
   refine stepL 9 rfl (by kernel_rfl) (fun K hK=>?_)
   go_simp
   refine hK.out _ _ (fun _=>⟨HQ8.out,HB8.out⟩) (fun hH=>?_)
   simp only [oZa,oZb,oZc]
   clear hK K
   refine stepL 10 rfl (by kernel_rfl) (fun K hK=>?_)
   go_simp
   refine hK.out _ _ (fun _=>⟨HQ8.out,HB8.out⟩) (fun hH=>?_)
   simp only [oZa,oZb,oZc]
   clear hK K
   refine stepL 11 rfl (by kernel_rfl) (fun K hK=>?_)
   refine zRRc rfl 28 _ _ (by rfl) q 7 (.slice A8 n8 c8) (logC p lv tv' L) (by rfl) (by rfl) HQ8.out (by kernel_rfl) (by show 7 < 10;decide) rfl ?_
   intro w9 hb9 hk9
   have HQ9:=qh (show LogQ w9 q p (.slice A8 n8 c8) tv' L from hb9)
   have HO9:=qh (HO8.out.keep hk9 (fun x hx=>(HL8.out x hx).1))
   have HT9:=qh (HT8.out.keep hk9 (fun x hx=>(HT6.out x hx).1))
   have HD9:=qh (HD8.out.keep hk9 H.out.nq.1 H.out.nq.2.1 H.out.nq.2.2)
   have HB9:=qh (hk9.heap HB8.out (by have:=zvKu H.out.hq;omega))
   have HK9:=qh (HK8.out.trans hk9 (fun x _ h=>.inl h))
   clear hb9 hk9 HQ8 HO8 HT8 HD8 HB8 HK8
   refine hK.out _ _ (fun h=>absurd rfl h) (fun _=>?_)
   simp only [Act.put,oZa,oZb,oZc]
   clear hK K hH
   refine doneL (by kernel_rfl) ?_ _
   have b0:=HOK.out.o0
   have b1:=HOK.out.o1
   have b2:=HOK.out.e1
   have cq5:w9.cell? ⟨q,5,none⟩=some (.int .i64 L.fin):=zcjX HQ9.out rfl
   have cy0:w9.cell? ⟨y,0,none⟩=some (.int .i64 r'.lsn):=zcjX HB9.out rfl
   have qy2:(y == q)=false:=by simp;have:=zvKu H.out.hq;omega
   obtain ⟨FI,hFI⟩:∃ FI,FI=L.fin:=⟨_,rfl⟩
   rw [<- hFI] at cq5 b1 b2
   have HFI:=qh hFI
   clear hFI
   go_wp2_with (refine z2q7 rfl 2 _ _ rfl q 5 (.int .i64 (FI+(E.length:Int))) (logC p (.slice A8 n8 c8) tv' L) rfl rfl HQ9.out (by kernel_rfl) (by show 5 < 10;decide) rfl ?_)
   intro w10 hb10 hk10
   have HB10:=qh (hk10.heap HB9.out (by have:=zvKu H.out.hq;omega))
   have cy1:w10.cell? ⟨y,0,none⟩=some (.int .i64 r'.lsn):=zcjX HB10.out rfl
   have HQ10:=qh hb10
   have HO10:=qh (HO9.out.keep hk10 (fun x hx=>(HL8.out x hx).1))
   have HT10:=qh (HT9.out.keep hk10 (fun x hx=>(HT6.out x hx).1))
   have HD10:=qh (HD9.out.keep hk10 H.out.nq.1 H.out.nq.2.1 H.out.nq.2.2)
   have HK10:=qh (HK9.out.trans hk10 (fun x _ h=>.inl h))
   clear hb10 hk10 cy0 cq5
   go_wp2
   go_ret2
   have hv:L.append r=({ L with tail:=L.tail ++ E,lsns:=L.lsns ++ [L.fin],fin:=L.fin+E.length },L.fin,0):=by
    rw [HAP.out,if_neg (fun h=>h HR.out),if_neg (by rw [<- HRM.out,<- HE.out];omega),<- HE.out]
   unfold zM8N
   rw [hv]
   refine ⟨by show Ending.returned (.tuple #[.int .i64 r'.lsn,.int .i64 0])=Ending.returned (.tuple #[.int .i64 L.fin,.int .i64 0]);rw [HLSN.out],_,tv',⟨HD10.out,?_,HO10.out,HT10.out,H.out.nq,fun x hx=>?_,fun x hx=>?_⟩,HK10.out,HLAT.out,HAT.out⟩
   ·have h:=HQ10.out
    rw [HFI.out] at h
    exact h
   ·have h:=HL8.out x hx
    exact ⟨h.1,h.2.1,h.2.2.1,h.2.2.2.1,h.2.2.2.2.1⟩
   ·have h:=HT6.out x hx
    exact ⟨h.1,h.2.1,h.2.2.1,h.2.2.2.1⟩
 ·have he:=hp2 hR
  subst he
  have HR:=qh hR
  clear hp1 hp2 hR
  go_wp2
  go_ret2
  have hv:L.append r=(L,0,4):=by rw [HAP.out,if_pos HR.out]
  unfold zM8N
  rw [hv]
  exact ⟨rfl,lv,tv,HS4.out,HK4.out.mono (fun _ _ h=>h.elim),OwnTo.refl _ _,OwnTo.refl _ _⟩
theorem zsc2 (x:Int) (w:World):Calls Tryz.prog 134 #[.int .i64 x] w fun e w'=>e=.returned (.bool false)/\w=w':=by
 go_enter Tryz.func134,Tryz.ntmps134
 go_wp2
 go_ret
 exact ⟨by simp,rfl⟩
theorem zHx6 (x:Int) (w:World):Calls Tryz.prog 119 #[.int .i64 x] w fun e w'=>e=.returned (.bool false)/\w=w':=by
 go_enter Tryz.func119,Tryz.ntmps119
 go_wp2
 go_ret
 exact ⟨by simp,rfl⟩
theorem zQUD (x y:Int) (w:World):Calls Tryz.prog 118 #[.int .i64 x,.int .i64 y] w fun e w'=>e=.returned (.bool (decide (x < y)))/\w=w':=by
 go_enter Tryz.func118,Tryz.ntmps118
 go_wp2_with (go_at_call 134;refine (zsc2 _ _).mono ?_;rintro e w' ⟨rfl,rfl⟩)
 go_ret
 exact ⟨rfl,rfl⟩
theorem zhop:∀ (l:List Int) (x:Int) (i:Nat),i<=l.length->(∀ t,t < i->l.getD t 0 < x)->(∀ t,i<=t->t < l.length->x<=l.getD t 0)->findM l x=i
 | [],x,i,h,_,_=>by simp at h;subst h;rfl
 | y :: l,x,0,_,_,h=>by
  have:=h 0 (Nat.le_refl _) (by simp)
  simp at this
  unfold findM
  rw [List.takeWhile_cons_of_neg (by simpa using this)]
  rfl
 | y :: l,x,i+1,h0,h1,h2=>by
  have h3:=h1 0 (by omega)
  simp at h3
  have ih:=zhop l x i (by simpa using h0) (fun t ht=>by simpa using h1 (t+1) (by omega)) (fun t ht hl=>by simpa using h2 (t+1) (by omega) (by simpa using hl))
  unfold findM at ih ⊢
  rw [List.takeWhile_cons_of_pos (by simpa using h3),List.length_cons,ih]
def Rises (l:List Int):Prop:=∀ i j,i < j->j < l.length->l.getD i 0 < l.getD j 0
def zVUo (l:List Int) (x:Int):Bool:=decide (findM l x < l.length/\l.getD (findM l x) 0=x)
theorem zNvr {i j:Nat} {a b:Bool} (h1:i=j) (h2:a=b):Ending.returned (.tuple #[.int .i64 (i:Nat),.bool a])=.returned (.tuple #[.int .i64 (j:Nat),.bool b]):=by rw [h1,h2]
set_option maxRecDepth 100000 in
set_option maxHeartbeats 800000 in
theorem zpf1 (A:Option Addr) (c:Nat) (l:List Int) (x:Int) (w:World) (hr:Rises l) (hl:l.length<=1000000000) (hcell:∀ k x,l[k]?=some x->∃ g off,A=some ⟨g,off,none⟩/\w.cell? ⟨g,off+k,none⟩=some (.int .i64 x)) :
  Calls Tryz.prog 90 #[.slice A l.length c,.int .i64 x] w fun e w'=>e=.returned (.tuple #[.int .i64 (findM l x:Nat),.bool (zVUo l x)])/\w=w':=by
 have C:=qh (show ∀ k,k < l.length->∃ g off,A=some ⟨g,off,none⟩/\w.cell? ⟨g,off+k,none⟩=some (.int .i64 (l.getD k 0)) from fun k hk=>by
  refine hcell k _ ?_
  rw [List.getD_eq_getElem?_getD,List.getElem?_eq_getElem hk]
  rfl)
 have S:=qh hr
 obtain ⟨n,hn⟩:∃ n,n=l.length:=⟨_,rfl⟩
 rw [<- hn] at C hl ⊢
 have N:=qh hn
 clear hr hcell hn
 go_enter Tryz.func90,Tryz.ntmps90
 go_wp2
 go_loopg [7,8] n (fun g i j wr=>∃ lo hi:Nat,i=.int .i64 lo/\j=.int .i64 hi/\lo<=hi/\hi<=n/\hi - lo<=g/\w=wr/\(∀ t,t < lo->l.getD t 0 < x)/\(∀ t,hi<=t->t < n->x<=l.getD t 0))
 case atStart=>exact ⟨0,n,rfl,rfl,Nat.zero_le _,Nat.le_refl _,Nat.le_refl _,rfl,fun t ht=>absurd ht (by omega),fun t h1 h2=>absurd h1 (by omega)⟩
 case round=>
  obtain ⟨lo,hi,rfl,rfl,hlh,hin,hg,rfl,h1,h2⟩:=hrel
  have I:=qh (And.intro h1 h2)
  clear h1 h2
  by_cases hlt:lo < hi
  ·obtain ⟨g0,o0,hA,cm⟩:=C.out ((lo+hi) / 2) (by omega)
   subst hA
   obtain ⟨y,hy⟩:∃ y,y=l.getD ((lo+hi) / 2) 0:=⟨_,rfl⟩
   rw [<- hy] at cm
   have Y:=qh hy.symm
   clear hy
   by_cases hyx:y < x
   ·go_wp2_with (go_at_call 118;refine (zQUD _ _ _).mono ?_;rintro e w' ⟨rfl,rfl⟩)
    go_roundg (hi - ((lo+hi) / 2+1))
    case measure=>omega
    case rel=>
     refine ⟨(lo+hi) / 2+1,hi,by go_num,rfl,by omega,hin,Nat.le_refl _,rfl,fun t ht=>?_,I.out.2⟩
     rcases Nat.lt_or_ge t ((lo+hi) / 2) with h | h
     ·have:=S.out t ((lo+hi) / 2) h (by rw [<- N.out];omega)
      rw [Y.out] at this
      omega
     ·have:t=(lo+hi) / 2:=by omega
      rw [this,Y.out];exact hyx
   ·go_wp2_with (go_at_call 118;refine (zQUD _ _ _).mono ?_;rintro e w' ⟨rfl,rfl⟩)
    go_roundg ((lo+hi) / 2 - lo)
    case measure=>omega
    case rel=>
     refine ⟨lo,(lo+hi) / 2,rfl,by go_num,by omega,by omega,Nat.le_refl _,rfl,I.out.1,fun t ht htn=>?_⟩
     rcases Nat.lt_or_ge ((lo+hi) / 2) t with h | h
     ·have:=S.out ((lo+hi) / 2) t h (by rw [<- N.out];omega)
      rw [Y.out] at this
      omega
     ·have:t=(lo+hi) / 2:=by omega
      rw [this,Y.out];omega
  ·have:hi=lo:=by omega
   subst this
   have hf:=zhop l x hi (by rw [<- N.out];omega) I.out.1 (fun t h3 h4=>I.out.2 t h3 (by rw [N.out];exact h4))
   have E:=qh hf
   have EF:=qh (show zVUo l x=decide (hi < n/\l.getD hi 0=x) from by unfold zVUo;rw [hf,N.out])
   clear hf
   by_cases hn:hi < n
   ·obtain ⟨g0,o0,hA,cm⟩:=C.out hi hn
    subst hA
    obtain ⟨y,hy⟩:∃ y,y=l.getD hi 0:=⟨_,rfl⟩
    rw [<- hy] at cm EF
    clear hy
    by_cases hyx:y=x
    ·subst hyx
     go_wp2_with (go_at_call 119;refine (zHx6 _ _).mono ?_;rintro e w' ⟨rfl,rfl⟩)
     go_ret2
     exact ⟨zNvr E.out.symm (EF.out.trans (decide_eq_true (⟨hn,by trivial⟩:_/\_))).symm,rfl⟩
    ·have hyb:(y == x)=false:=by simpa using hyx
     go_wp2_with (go_at_call 119;refine (zHx6 _ _).mono ?_;rintro e w' ⟨rfl,rfl⟩)
     go_ret2
     exact ⟨zNvr E.out.symm (EF.out.trans (decide_eq_false (show ¬ (hi < n/\y=x) from fun h=>hyx h.2))).symm,rfl⟩
   ·go_wp2_with (go_at_call 119;refine (zHx6 _ _).mono ?_;rintro e w' ⟨rfl,rfl⟩)
    go_ret2
    exact ⟨zNvr E.out.symm (EF.out.trans (decide_eq_false (show ¬ (hi < n/\l.getD hi 0=x) from fun h=>hn h.1))).symm,rfl⟩
theorem zvCL (D:DevM) (F C:Int) (n:Nat) (hC:4<=C) (hl:∀ k,(D.latest k).length=512):∀ (f:Nat) (a:Int) (l:Bytes),n < f+l.length->(zXvy D F C n f a l).2=0->(zXvy D F C n f a l).1.length=n:=by
 intro f
 induction f with
 | zero=>intro a l h _;show (l.take n).length=n;rw [List.length_take];omega
 | succ f ih=>
  intro a l h h2
  unfold zXvy at h2 ⊢
  by_cases hn:n<=l.length
  ·rw [if_pos hn];show (l.take n).length=n;rw [List.length_take];omega
  ·rw [if_neg hn] at h2 ⊢
   by_cases hm:D.mayE (secB F C a)≠0
   ·rw [if_pos hm] at h2
    exact absurd h2 hm
   ·rw [if_neg hm] at h2 ⊢
    refine ih _ _ ?_ h2
    have h3:=zW0U D F C a (hl _) hC
    have h4:=zjuj (a:=a)
    rw [List.length_append,List.length_drop,h3]
    omega
structure LogB (L:LogM):Prop where
 fe:L.fin=L.beg+L.tail.length
 b0:1<=L.beg
 bs:L.beg<=3000000000000000000
set_option maxRecDepth 100000 in
set_option maxHeartbeats 1600000 in
theorem zeA1 (w:World) (q p ms mo:Nat) (lv tv:Value) (L:LogM) (D:DevM) (h:LogS w q p ms mo lv tv L D) (hok:LogOk L) (hb:LogB L) (a:Int) (n:Nat) (h1:1<=a) (h2:a+n<=L.fin) (hn:n<=10000000) :
  Calls Tryz.prog 91 #[.pointer (some ⟨q,0,none⟩),.int .i64 a,.int .i64 n] w (zUIb w (L.bytes D a n)):=by
 have H:=qh h
 have HOK:=qh hok
 have HBB:=qh hb
 have e1:=hok.e1
 have fe:=hb.fe
 have b0:=hb.b0
 have bs:=hb.bs
 obtain ⟨s,hs⟩:∃ s:Bytes×Int,s=if a < L.beg then zXvy D L.first L.count (min n (L.beg - a).toNat) (min n (L.beg - a).toNat+1) a [] else ([],0):=⟨_,rfl⟩
 have hv:L.bytes D a n=if s.2≠0 then ([],s.2) else (s.1 ++ (L.tail.drop (a+s.1.length - L.beg).toNat).take (n - s.1.length),0):=by rw [hs];rfl
 obtain ⟨X,hX⟩:∃ X:Bytes×Int,X=if s.2≠0 then ([],s.2) else (s.1 ++ (L.tail.drop (a+s.1.length - L.beg).toNat).take (n - s.1.length),0):=⟨_,rfl⟩
 rw [hv,<- hX]
 have HX:=qh hX
 clear hX
 have c9:w.cell? ⟨q,9,none⟩=some (.int .i64 L.beg):=zcjX h.hq rfl
 have LEN:=qh (show s.2=0->(a < L.beg/\s.1.length=min n (L.beg - a).toNat)\/(L.beg<=a/\s.1=[]) from fun h0=>by
  rw [hs] at h0 ⊢
  by_cases hlt:a < L.beg
  ·rw [if_pos hlt] at h0 ⊢
   exact .inl ⟨hlt,zvCL D L.first L.count _ hok.c0 h.dev.len _ _ _ (by simp) h0⟩
  ·rw [if_neg hlt];exact .inr ⟨by omega,rfl⟩)
 have HS:=qh hs
 obtain ⟨BG,hBG⟩:∃ BG,BG=L.beg:=⟨_,rfl⟩
 rw [<- hBG] at c9 b0 bs fe
 have HBG:=qh hBG
 obtain ⟨FI,hFI⟩:∃ FI,FI=L.fin:=⟨_,rfl⟩
 rw [<- hFI] at e1 fe h2
 obtain ⟨T,hT⟩:∃ T:Nat,T=L.tail.length:=⟨_,rfl⟩
 rw [<- hT] at fe
 have HT:=qh hT
 have HFE:=Lib.hid fe
 have hle:a+n<=BG+T:=by omega
 have hle2:BG+T<=3000000000000000000:=by omega
 clear h hok hb hs hv hBG hFI hT fe e1 h2
 go_enter Tryz.func91,Tryz.ntmps91
 go_upto_if 18 with fail
 go_cut [8,18] from 19 to 36 (fun v _ wx=>OwnV wx w.heap.size v s.1/\s.2=0/\Kept (fun _=>False) w wx)
 case first=>
  by_cases hlt:a < BG
  ·have hs2:s=zXvy D L.first L.count (min n (L.beg - a).toNat) (min n (L.beg - a).toNat+1) a []:=by
    rw [HS.out,if_pos (by rw [<- HBG.out];exact hlt)]
   obtain ⟨m,hm⟩:∃ m:Nat,m=min n (L.beg - a).toNat:=⟨_,rfl⟩
   rw [<- hm] at hs2
   have hmn:m<=n/\((m:Int)=n/\(n:Int)<=BG - a\/(m:Int)=BG - a/\¬ (n:Int)<=BG - a):=by rw [hm,<- HBG.out];omega
   have HST:=qh (zBRE w q p ms mo lv tv L D H.out.hq H.out.dev HOK.out a h1 (by omega) m (by omega))
   rw [<- hs2] at HST
   clear hs2 hm
   obtain ⟨E,hE⟩:∃ E,E=s.2:=⟨_,rfl⟩
   have HE:=qh hE
   have HST2:=qh (show Calls Tryz.prog 120 #[.pointer (some ⟨q,0,none⟩),.int .i64 a,.int .i64 (m:Int)] w fun e w'=>Kept (fun _=>False) w w'/\∃ A k c,e=.returned (.tuple #[.slice A k c,.int .i64 E])/\OwnV w' w.heap.size (.slice A k c) s.1 from by rw [hE];exact HST.out)
   clear HST hE
   obtain ⟨hmn1,hmn2 | hmn2⟩:=hmn
   ·obtain ⟨hmn3,hmn4⟩:=hmn2
    rw [hmn3] at HST2
    clear hmn3
    by_cases h0:E=0
    ·subst h0
     go_wp2_with fail
     refine HST2.out.mono ?_
     rintro e w2 ⟨hk2,A2,k2,c2,rfl,ho2⟩
     go_wp2_with fail
     go_meet
     case rel=>exact ⟨ho2,HE.out.symm,hk2⟩
    ·have hmb:(E != 0)=true:=by simpa using h0
     go_wp2_with fail
     refine HST2.out.mono ?_
     rintro e w2 ⟨hk2,A2,k2,c2,rfl,ho2⟩
     go_wp2_with fail
     go_ret2
     have hx:X=([],E):=by rw [HX.out,if_pos (by rw [<- HE.out];exact h0),<- HE.out]
     rw [hx]
     exact ⟨hk2,none,0,0,rfl,OwnV.nil _ _⟩
   ·obtain ⟨hmn3,hmn4⟩:=hmn2
    rw [hmn3] at HST2
    clear hmn3
    by_cases h0:E=0
    ·subst h0
     go_wp2_with fail
     refine HST2.out.mono ?_
     rintro e w2 ⟨hk2,A2,k2,c2,rfl,ho2⟩
     go_wp2_with fail
     go_meet
     case rel=>exact ⟨ho2,HE.out.symm,hk2⟩
    ·have hmb:(E != 0)=true:=by simpa using h0
     go_wp2_with fail
     refine HST2.out.mono ?_
     rintro e w2 ⟨hk2,A2,k2,c2,rfl,ho2⟩
     go_wp2_with fail
     go_ret2
     have hx:X=([],E):=by rw [HX.out,if_pos (by rw [<- HE.out];exact h0),<- HE.out]
     rw [hx]
     exact ⟨hk2,none,0,0,rfl,OwnV.nil _ _⟩
  ·have hs2:s=([],0):=by rw [HS.out,if_neg (by rw [<- HBG.out];exact hlt)]
   have HS2:=qh hs2
   clear hs2
   go_wp2
   go_meet
   case rel=>exact ⟨by rw [HS2.out];exact OwnV.nil _ _,by rw [HS2.out],Kept.refl _ _⟩
 case rest=>
  obtain ⟨ho,h0,hk⟩:=hcut
  have HX2:=qh (show X=(s.1 ++ (L.tail.drop (a+s.1.length - L.beg).toNat).take (n - s.1.length),0) from by rw [HX.out,if_neg (by rw [h0];decide)])
  have HO:=qh ho
  have HK:=qh hk
  have HSc:=qh (H.out.keep hk (fun _ _=>id))
  obtain ⟨A,k,c,rfl,hkl⟩:∃ A k c,u8=Value.slice A k c/\k=s.1.length:=by
   obtain ⟨A,c,h,_⟩:=ho.slice
   exact ⟨A,_,c,h,rfl⟩
  have hkn:k<=n/\(k=n\/∃ d:Nat,(a+k - BG)=(d:Int)/\d+(n - k)<=T):=by
   rw [hkl]
   rcases LEN.out h0 with ⟨h3,h4⟩ | ⟨h3,h4⟩
   ·rw [h4,<- HBG.out]
    rw [<- HBG.out] at h3
    refine ⟨by omega,?_⟩
    by_cases h5:(n:Int)<=BG - a
    ·left;omega
    ·right;exact ⟨0,by omega,by omega⟩
   ·rw [h4]
    rw [<- HBG.out] at h3
    refine ⟨by simp,.inr ⟨(a - BG).toNat,by simp;omega,by simp;omega⟩⟩
  have HKL:=qh hkl
  have c9:wc.cell? ⟨q,9,none⟩=some (.int .i64 BG):=by rw [HBG.out];exact zcjX HSc.out.hq rfl
  have c8:wc.cell? ⟨q,8,none⟩=some tv:=zcjX HSc.out.hq rfl
  obtain ⟨At,nt,ct,rfl,hnt⟩:∃ A k c,tv=Value.slice A k c/\L.tail.length<=c:=by
   obtain ⟨A,c,h,hc⟩:=H.out.ht.slice
   exact ⟨A,_,c,h,hc⟩
  rw [<- HT.out] at hnt
  clear ho hk hkl h0
  obtain ⟨hkn1,hkn2 | ⟨d,hd1,hd2⟩⟩:=hkn
  ·subst hkn2
   go_wp2
   go_ret2
   have e3:(L.tail.drop (a+s.1.length - L.beg).toNat).take (k - s.1.length)=[]:=by rw [<- HKL.out,Nat.sub_self,List.take_zero]
   rw [HX2.out,e3,List.append_nil]
   exact ⟨HK.out,A,k,c,rfl,HO.out⟩
  ·by_cases hkn2:k=n
   ·subst hkn2
    clear hd1 hd2
    go_wp2
    go_ret2
    have e3:(L.tail.drop (a+s.1.length - L.beg).toNat).take (k - s.1.length)=[]:=by rw [<- HKL.out,Nat.sub_self,List.take_zero]
    rw [HX2.out,e3,List.append_nil]
    exact ⟨HK.out,A,k,c,rfl,HO.out⟩
   ·obtain ⟨j,hj⟩:∃ j,j=n - k:=⟨_,rfl⟩
    rw [<- hj] at hd2
    have hkn3:k < n:=by omega
    have hj2:j<=n:=by omega
    have HD1:=qh hd1
    have HJ:=qh (show (n:Int) - (k:Int)=(j:Int) from by omega)
    have HRT:=qh (((OwnV.rd HSc.out.ht).sl d ct (by rw [<- HT.out];exact hnt)).takeG j)
    have LJ:=qh (show ((L.tail.drop d).take j).length=j from by rw [List.length_take,List.length_drop,<- HT.out];omega)
    have EQ:=qh (show (L.tail.drop (a+s.1.length - L.beg).toNat).take (n - s.1.length)=(L.tail.drop d).take j from by rw [<- HKL.out,<- HBG.out,hd1,Int.toNat_natCast,hj])
    clear hj hd1 hkn2
    go_wp2_with (first
     | (refine z3Ho rfl (zW40 _ _ _ d (d+j) j rfl At nt ct _ _ rfl rfl rfl (by have:=HD1.out;omega) (by have:=HD1.out;have:=HJ.out;omega) (by omega) (by omega) (by omega) _) ?_)
     | (at_builtin;refine zZjY rfl _ _ rfl w.heap.size _ s.1 ((L.tail.drop d).take j) rfl HO.out _ j (ct - d) rfl LJ.out HRT.out (by rw [LJ.out,<- HKL.out];omega) (by have:=HK.out.size;exact this) ?_))
    intro v3 w3 ho3 hk3 hat3
    have HO3:=qh ho3
    have HK3:=qh (HK.out.new hk3 (fun x hx=>(HO.out.base_le hx).1))
    obtain ⟨A3,n3,c3,rfl⟩:∃ A k c,v3=Value.slice A k c:=by
     obtain ⟨A,c,h,_⟩:=ho3.slice
     exact ⟨A,_,c,h⟩
    clear ho3 hk3 hat3
    go_wp2
    go_ret2
    rw [HX2.out,EQ.out]
    exact ⟨HK3.out,A3,n3,c3,rfl,HO3.out⟩
end Go.Proofs.YtfgagakepmigbaaGreat
