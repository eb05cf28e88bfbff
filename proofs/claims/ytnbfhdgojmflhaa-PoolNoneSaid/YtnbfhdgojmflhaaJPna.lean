/-
  No statement is proved here.
-/
import Derived.Test.YtnbfhdgojmflhaaJQaw
namespace Go.Proofs.Ytnbfhdgojmflhaa
open Go.RowKit
section
variable {w w' w1:World} {a:Adr} {P:PoolM} {L:LogM} {D:DevM}
theorem z3OL (wz:World):(zeroValue 42).run Try.prog wz=.ok (.agg (spnC 0 0 none 0 0 none 0 0)) wz:=(zero_of_info (n:=4) (by kernel_rfl)).1 wz
theorem bSpn (p o:Int) (A:Option Addr) (n c:Nat) (wz:World):(Instr.build 42 #[(0,.int .i64 p),(1,.int .i64 o),(3,.slice A n c)]).run Try.prog wz=.ok (.agg #[.int .i64 p,.int .i64 o,.slice none 0 0,.slice A n c]) wz:=run_build wz _ _ _ (by kernel_rfl)
theorem zWMY (p o:Int) (A:Option Addr) (n c:Nat) (B:Option Addr) (m d:Nat):(spnC p o A n c B m d).all (·.oneCell')=true:=by
 unfold spnC
 simp [Value.oneCell']
theorem zXYe {k:Nat} (h:k < 255):cellsOf [UInt8.ofNat (k+1)]=#[.int .u8 ((k:Int)+1)]:=by
 have e:(UInt8.ofNat (k+1)).toNat=k+1:=by rw [UInt8.toNat_ofNat'];omega
 unfold cellsOf
 simp only [List.map_cons,List.map_nil,e]
 rfl
set_option maxRecDepth 100000 in
set_option maxHeartbeats 1600000 in
theorem zaCw (w:World):Calls Try.prog 6 #[] w fun e w'=>e=.returned (.bool true)/\Kept (fun _=>False) w w':=by
 have BS:=bSpn
 go_enter Try.func6,Try.ntmps6
 go_wp2_with fail
 refine (zw8r w 20 8 (by decide) (by decide) (by decide) (by decide) zJU6 (by rw [zCiy];decide)).mono ?_
 rintro e w1 ⟨rg,a,rfl,hr,hk,hrg,hfr⟩
 have HR:=qh hr
 have c2:w1.cell? ⟨rg,2,none⟩=some (.pointer (some ⟨a.pb,0,none⟩)):=zcjX hr.hr rfl
 have HA:=qh (show AwI w 0 rg a (zVHS 12 20 8) rigL0 (newM (12+20)) w1 from
  ⟨hr,zuXd (by decide) (by decide) (by decide) (by decide),rfl,rfl,hk,hfr,by decide,by decide,rfl,rfl,(fun f hf=>by cases hf),(fun p hp=>by omega)⟩)
 clear hr hk hfr HR
 unfold ptrV
 go_wp2_with fail
 go_loopw [2] (fun i wr=>∃ (k:Nat) (a:Adr) (P:PoolM) (L:LogM) (D:DevM),i=.int .i64 k/\k<=20/\AwI w k rg a P L D wr) (fun i _=>20 - (intOf i).toNat)
 case atStart=>exact ⟨0,a,_,_,_,rfl,Nat.zero_le _,HA.out⟩
 case round=>
  clear HA c2
  obtain ⟨k,a,P,L,D,rfl,hk,hA⟩:=hrel
  have HA:=qh hA
  clear hA
  by_cases hk20:k < 20
  ·have e1:IntKind.i64.wrap ((k:Int)+1)=(k:Int)+1:=by rw [IntKind.wrap_i64];omega
   have e8:IntKind.u8.wrap ((k:Int)+1)=(k:Int)+1:=by simp [IntKind.wrap,IntKind.bits,IntKind.signed];omega
   have hki:(k:Int) < 20:=by omega
   have BS1:=fun A c wz=>BS (k:Int) 500 A 1 c wz
   have HOB:=qh (zXYe (k:=k) (by omega))
   go_wp2_with (refine zNko rfl 42 rfl (spnC 0 0 none 0 0 none 0 0) z3OL ?_)
   intro sb w2 l1 l2 hb2 hk2
   obtain ⟨nb,hnb⟩:∃ nb,nb=wr.heap.size:=⟨_,rfl⟩
   rw [<- hnb]
   refine zxQF rfl 42 _ _ rfl sb (spnC k 500 none 0 0 (some ⟨nb,0,none⟩) 1 1) _ rfl rfl hb2 (by kernel_rfl) rfl (zWMY _ _ _ _ _ _ _ _) ?_
   intro w3 hb3 hk3
   have hka:Kept (fun _=>False) wr (wr.alloc (.cells #[.int .u8 ((k:Int)+1)] 5)):=(Kept.refl _ wr).alloc _
   have hsz:(wr.alloc (.cells #[Value.int .u8 ((k:Int)+1)] 5)).heap.size=nb+1:=by rw [hnb];simp
   have hk23:Kept (fun _=>False) (wr.alloc (.cells #[.int .u8 ((k:Int)+1)] 5)) w3:=hk2.new hk3 (fun z hz=>by subst hz;rw [hsz,hnb];exact l1)
   have HK3:=qh (hka.trans0 hk23)
   have HSB:=qh (show w3.heap[sb]?=some (.cells (spnC k 500 none 0 0 (some ⟨nb,0,none⟩) 1 1) 42 (0,0)) from hb3)
   have hnbh:w3.heap[nb]?=some (.cells (cellsOf [UInt8.ofNat (k+1)]) 5 (0,0)):=by
    rw [HOB.out]
    refine hk23.heap ?_ id
    rw [hnb]
    exact heap_alloc_new wr _
   have hrd0:=RdB.of_blk hnbh
   obtain ⟨M,hM⟩:∃ M,M=[UInt8.ofNat (k+1)]:=⟨_,rfl⟩
   rw [<- hM] at hrd0
   have hML:M.length=1:=by rw [hM];rfl
   have hM0:M≠[]:=by rw [hM];simp
   have HM:=qh hM
   have HRD:=qh hrd0
   have HR3:=qh (HA.out.s.keep0 HK3.out)
   have HNB:=qh hnb
   have hl1:nb+1<=sb:=by rw [hnb];exact l1
   clear hnb hrd0 hM hnbh hb3 hb2 hk2 hk3 hka hk23 l1 l2 hsz BS1
   have HS0:=qh (show (w3.drew).heap[rg]?=some (.cells (rigC a) 28 (0,0))/\(w3.drew).heap[sb]?=some (.cells (spnC k 500 none 0 0 (some ⟨nb,0,none⟩) 1 1) 42 (0,0)) from ⟨HR3.out.hr,HSB.out⟩)
   have HC:=qh (fun (w':World) (h:w'.heap[rg]?=some (.cells (rigC a) 28 (0,0))/\w'.heap[sb]?=some (.cells (spnC k 500 none 0 0 (some ⟨nb,0,none⟩) 1 1) 42 (0,0)))=>show w'.cell? ⟨rg,2,none⟩=some (.pointer (some ⟨a.pb,0,none⟩))/\w'.cell? ⟨sb,0,none⟩=some (.int .i64 k)/\w'.cell? ⟨sb,1,none⟩=some (.int .i64 500)/\w'.cell? ⟨sb,2,none⟩=some (.slice none 0 0)/\w'.cell? ⟨sb,3,none⟩=some (.slice (some ⟨nb,0,none⟩) 1 1) from
    ⟨zcjX h.1 rfl,zcjX h.2 rfl,zcjX h.2 rfl,zcjX h.2 rfl,zcjX h.2 rfl⟩)
   have hfresh:∀ z,a.K z->z < wr.heap.size:=fun z hz=>HA.out.s.s.lt hz
   have HFR:=qh hfresh
   have HAP:=qh (zq0U (w:=w3.drew) (HR3.out.keep0 ((Kept.refl (fun _=>False) w3).drew)) HA.out.i.g (k:Int) 500 (by unfold isI;omega) (by unfold isI;omega) none 0 0 (some ⟨nb,0,none⟩) M 1 (by omega) (HRD.out.kept ((Kept.refl (fun _=>False) w3).drew) (fun _ _ _ _=>id)) (fun b o e _ hK=>by cases e;have:=hfresh _ hK;have:=HNB.out;omega))
   obtain ⟨L1,D1,q1,q2,q3,q4,q5,q6,q7⟩:=zqSn HA.out.i (chR k 500 M) (zS49 HA.out.fin1 (by have:=HA.out.fin;omega) (by rw [HA.out.tu];decide) (by rw [HA.out.tu];decide) (by omega) (by omega) (by decide) hM0 (by omega)) (by have:=HA.out.fin;omega)
   have HQ1:=Lib.hid q1
   have HQ2:=Lib.hid q2
   have HQ4:=Lib.hid q4
   have HQ7:=Lib.hid q7
   rw [q1,hML] at HAP
   clear q1 q2 q3 q4 q5 q6 q7 hfresh
   unfold ptrV at HAP
   go_wp2_with fail
   refine znCh 9 (fun w'=>w'.heap[rg]?=some (.cells (rigC a) 28 (0,0))/\w'.heap[sb]?=some (.cells (spnC k 500 none 0 0 (some ⟨nb,0,none⟩) 1 1) 42 (0,0))) (by kernel_rfl) HS0.out (fun hH=>?_)
   simp only [List.length_cons,List.length_nil,List.replicate]
   refine tK 0 ?_ (fun w' hw'=>?_) hH ?_
   rotate_left
   ·obtain ⟨c0,d0,d1,d2,d3⟩:=HC.out w' hw'
    go_simp<;>with_reducible rfl
   simp only [Act.put,oZa,oZb,oZc]
   refine tK 1 ?_ (fun w' hw'=>?_) hH ?_
   rotate_left
   ·obtain ⟨c0,d0,d1,d2,d3⟩:=HC.out w' hw'
    go_simp<;>with_reducible rfl
   simp only [Act.put,oZa,oZb,oZc]
   refine tK 2 ?_ (fun w' hw'=>?_) hH ?_
   rotate_left
   ·obtain ⟨c0,d0,d1,d2,d3⟩:=HC.out w' hw'
    go_simp<;>with_reducible rfl
   simp only [Act.put,oZa,oZb,oZc]
   refine tK 3 ?_ (fun w' hw'=>?_) hH ?_
   rotate_left
   ·obtain ⟨c0,d0,d1,d2,d3⟩:=HC.out w' hw'
    go_simp<;>with_reducible rfl
   simp only [Act.put,oZa,oZb,oZc]
   refine tK 4 ?_ (fun w' hw'=>?_) hH ?_
   rotate_left
   ·obtain ⟨c0,d0,d1,d2,d3⟩:=HC.out w' hw'
    go_simp<;>with_reducible rfl
   simp only [Act.put,oZa,oZb,oZc]
   refine tK 5 ?_ (fun w' hw'=>?_) hH ?_
   rotate_left
   ·obtain ⟨c0,d0,d1,d2,d3⟩:=HC.out w' hw'
    go_simp<;>with_reducible rfl
   simp only [Act.put,oZa,oZb,oZc]
   refine tK 6 ?_ (fun w' hw'=>?_) hH ?_
   rotate_left
   ·obtain ⟨c0,d0,d1,d2,d3⟩:=HC.out w' hw'
    go_simp<;>with_reducible rfl
   simp only [Act.put,oZa,oZb,oZc]
   refine stepL 7 rfl (by kernel_rfl) (fun K hK=>?_)
   go_simp
   refine HAP.out.mono ?_
   rintro e w5 ⟨rfl,a1,ht1,hr1⟩
   have HT1:=qh (show AdrTo wr a w5 a1 from ((AdrTo.refl wr a).keep0 HK3.out.drew).trans ht1)
   have HR1:=qh hr1
   have hnbK:¬ a.K nb:=fun e=>by have:=HFR.out _ e;have:=HNB.out;omega
   have hsbK:¬ a.K sb:=fun e=>by have:=HFR.out _ e;have:=HNB.out;omega
   have HSB5:=qh (ht1.k.heap HS0.out.2 hsbK)
   have hw3:=zvKu HSB.out
   have hg1:∀ z,a1.K z->z=nb\/z=sb->False:=fun z hz e=>by
    rcases ht1.g z hz with h1 | h1
    ·rcases e with rfl | rfl
     ·exact hnbK h1
     ·exact hsbK h1
    ·have h2:w3.heap.size<=z:=h1
     rcases e with rfl | rfl<;>omega
   have HG1:=qh hg1
   have hrd5:=(HRD.out.kept ((Kept.refl (fun _=>False) w3).drew) (fun _ _ _ _=>id)).kept ht1.k (fun b o e _ hK=>by cases e;exact hnbK hK)
   have hpb:=HA.out.pb
   obtain ⟨P2,L2,D2,r1,r2,-,-,-⟩:=zV7e HQ2.out (page:=k) (off:=500) (lsn:=L.fin) (m:=M) (by omega) (by omega) (by decide) hM0 (by omega) HA.out.fin1 HQ4.out
   have HCH:=qh (zDLA hr1.s HQ2.out.g HQ2.out.pi.n HQ2.out.calm.d HQ2.out.pi.fn (k:Int) 500 none 0 0 (some ⟨nb,0,none⟩) M 1 L.fin hrd5 (fun b o e _ hK=>by cases e;exact hg1 _ hK (.inl rfl)) (fun f hf h0=>by
    obtain ⟨P',L',D',i,f',e',x1,x2,x3,x4,x5⟩:=zRW5 HQ2.out (page:=k) (by omega) (by omega)
    rw [e'] at hf
    have hff:f'=f:=Option.some.inj (x1.symm.trans hf)
    rw [<- hff]
    exact (x4.pi.fr f' (List.mem_of_getElem? x1)).2.2.1))
   unfold zuFW at HCH
   dsimp only at HCH
   rw [r1,hML] at HCH
   unfold ptrV at HCH
   rw [ht1.fix.pb] at HCH
   have HR2:=Lib.hid r1
   clear ht1 hr1 hnbK hsbK hg1 hrd5 hpb r1 r2 HAP
   go_simp
   refine hK.out _ _ (fun _=>⟨by rw [<- z07p HT1.out.fix];exact HR1.out.hr,HSB5.out⟩) (fun _=>?_)
   simp only [oZa,oZb,oZc]
   clear hK K hH
   refine stepL 8 rfl (by kernel_rfl) (fun K hK=>?_)
   go_simp
   refine HCH.out.mono ?_
   rintro e w6 ⟨rfl,a2,f2,s2,k2,g2⟩
   have HT2:=qh (show AdrTo w5 a1 w6 a2 from ⟨f2,k2,g2⟩)
   have HR6:=qh (HR1.out.to HT2.out s2)
   have HSB6:=qh (k2.heap HSB5.out (fun e=>HG1.out _ e (.inr rfl)))
   clear f2 s2 k2 g2 HCH
   go_simp
   refine hK.out _ _ (fun _=>⟨by rw [<- z07p (HT1.out.fix.trans HT2.out.fix)];exact HR6.out.hr,HSB6.out⟩) (fun _=>?_)
   simp only [oZa,oZb,oZc]
   clear hK K
   refine stepL 9 rfl (by kernel_rfl) (fun K hK=>?_)
   go_simp
   refine hK.out _ _ (fun h=>absurd rfl h) (fun _=>?_)
   simp only [oZa,oZb,oZc]
   clear hK K
   refine doneL (by kernel_rfl) ?_ _
   have HNX:=qh (HA.out.next hk20 HT1.out HT2.out HR6.out (by rw [<- HM.out];exact HQ1.out) (by rw [<- HM.out];exact HR2.out))
   go_wp2
   go_roundw
   case rel=>exact ⟨k+1,a2,P2,L2,D2,by go_num,by omega,HNX.out⟩
   case measure=>simp [intOf];omega
  ·have hk2:k=20:=by omega
   have hA20:=HA.out
   rw [hk2] at hA20
   have HA:=qh hA20
   clear hA20 hk2
   go_wp2_with fail
   go_loopw [4] (fun i wr=>∃ (j:Nat) (a:Adr) (P:PoolM) (L:LogM) (D:DevM),i=.int .i64 j/\j<=20/\AwI w 20 rg a P L D wr) (fun i _=>20 - (intOf i).toNat)
   case atStart=>exact ⟨0,a,P,L,D,rfl,Nat.zero_le _,HA.out⟩
   case round=>
    clear HA
    obtain ⟨j,a,P,L,D,rfl,hj,hA⟩:=hrel
    have HA:=qh hA
    have c2:wr.cell? ⟨rg,2,none⟩=some (.pointer (some ⟨a.pb,0,none⟩)):=zcjX hA.s.hr rfl
    clear hA
    by_cases hj20:j < 20
    ·have hji:(j:Int) < 20:=by omega
     have e1:IntKind.i64.wrap ((j:Int)+1)=(j:Int)+1:=by rw [IntKind.wrap_i64];omega
     have e8:IntKind.u8.wrap ((j:Int)+1)=(j:Int)+1:=by simp [IntKind.wrap,IntKind.bits,IntKind.signed];omega
     have hpb:=HA.out.pb
     obtain ⟨P',L',D',i,f,e,x1,x2,x3,x4,x5⟩:=zRW5 HA.out.i (page:=j) (by omega) (by omega)
     have hflen:f.b.length=512:=(x4.pi.fr f (List.mem_of_getElem? x1)).2.2.1
     have hrd:=zZpk HA.out.s.s HA.out.i.g HA.out.i.pi.n HA.out.i.calm.d HA.out.i.pi.fn (j:Int) (fun g hg h0=>by
      rw [e] at hg
      have hgg:f=g:=Option.some.inj (x1.symm.trans hg)
      rw [<- hgg];exact hflen)
     unfold z4w2 at hrd
     rw [e] at hrd
     have HRD:=qh (show Calls Try.prog 13 #[ptrV a.pb,.int .i64 j] wr (fun e w'=>∃ a' g c,AdrTo wr a w' a'/\PoolS w' a' P' L' D'/\e=.returned (.tuple #[.slice (some ⟨g,0,none⟩) 512 c,.int .i64 0])/\w'.cell? ⟨g,500,none⟩=some (.int .u8 ((j:Int)+1))) from hrd.mono (fun e' w' hh=>by
      obtain ⟨a',f2,A,c,y1,y2,y3,y4,y5,y6⟩:=hh.2 rfl
      have hff:f=f2:=Option.some.inj (x1.symm.trans y3)
      rw [<- hff] at y5
      rcases y5.form with ⟨z1,z2⟩ | ⟨g,cap,z1,z2⟩
      ·rw [z2] at hflen;simp at hflen
      ·rw [hflen] at z1
       injection z1 with z1 _ z3
       refine ⟨a',g,c,y1,y2,by rw [y4,z1],?_⟩
       have h9:=z2.cellAt (i:=500) (by omega)
       rw [h9,x3,HA.out.cur j hj20,UInt8.toNat_ofNat']
       have:(j+1) % 2 ^ 8=j+1:=by omega
       rw [this]
       rfl))
     have HE:=Lib.hid e
     clear e x1 x2 x3 x4 x5 hflen hrd hpb
     unfold ptrV at HRD
     go_wp2_with fail
     refine HRD.out.mono ?_
     rintro e w5 ⟨a1,g,c,ht1,hs1,rfl,c500⟩
     have HNX:=qh (HA.out.read hj20 ht1 hs1 HE.out)
     clear ht1 hs1
     go_wp2
     go_roundw
     case rel=>exact ⟨j+1,a1,P',L',D',by go_num,by omega,HNX.out⟩
     case measure=>simp [intOf];omega
    ·have hlen:P.ring.length=8:=HA.out.len
     have hfr:=z5NK HA.out.s.s HA.out.i.pi.n
     rw [hlen] at hfr
     have HFR:=qh hfr
     obtain ⟨R,B,hL⟩:=HA.out.i.li
     obtain ⟨P',L',D',e,x1,x2,x3,x4,x5,_,_⟩:=z1ZU HA.out.i.pi hL HA.out.i.calm
     have hfl:=zxnx HA.out.s.s HA.out.i.g HA.out.i.pi.n
     rw [e] at hfl
     have HFL:=qh hfl
     have HX1:=Lib.hid x1.n
     have HX5:=qh (zg3B x5)
     unfold ptrV at HFR HFL
     clear hlen hfr hL e x1 x2 x3 x4 x5 hfl
     go_wp2_with fail
     refine HFR.out.mono ?_
     rintro e wx ⟨rfl,rfl⟩
     go_wp2_with fail
     refine HFL.out.mono ?_
     rintro e w5 ⟨rfl,a1,f1,s1,k1,g1⟩
     have HT:=qh (show AdrTo wr a w5 a1 from ⟨f1,k1,g1⟩)
     have HR5:=qh (HA.out.s.to HT.out s1)
     have hd:=zFIr s1 HX1.out HX5.out
     rw [f1.pb] at hd
     have HDI:=qh hd
     have c25:w5.cell? ⟨rg,2,none⟩=some (.pointer (some ⟨a.pb,0,none⟩)):=by rw [<- f1.pb];exact zcjX HR5.out.hr rfl
     have HK5:=qh (HA.out.kp.new k1 HA.out.fr)
     unfold ptrV at HDI
     clear f1 s1 k1 g1 hd
     go_wp2_with fail
     refine HDI.out.mono ?_
     rintro e w6 ⟨rfl,hk6⟩
     have HK6:=qh (HK5.out.trans0 hk6)
     clear hk6
     go_wp2
     go_ret
     exact ⟨rfl,HK6.out⟩
end
def zPl:Array Value:=#[.pointer none,.pointer none,.int .i64 0,.int .i64 0,.int .i64 0,.slice none 0 0,.int .i64 0,.map none]
def NoPl (w:World) (A:Option Addr):Prop:=A=none\/∃ g,A=some ⟨g,0,none⟩/\w.heap[g]?=some (.cells zPl 57 (0,0))
theorem NoPl.keep {w w':World} {A:Option Addr} (h:NoPl w A) (hk:Kept (fun _=>False) w w'):NoPl w' A:=by
 rcases h with h | ⟨g,h1,h2⟩
 ·exact .inl h
 ·exact .inr ⟨g,h1,hk.heap h2 id⟩
section
variable {w w':World} {A:Option Addr}
theorem z1Ya (h:NoPl w A):Calls Try.prog 30 #[.pointer A] w fun e w'=>e=.returned (.bool false)/\w=w':=by
 rcases h with rfl | ⟨g,rfl,hg⟩
 ·go_enter Try.func30,Try.ntmps30
  go_wp2
  go_ret
  exact ⟨rfl,rfl⟩
 ·have c0:w.cell? ⟨g,0,none⟩=some (.pointer none):=zcjX hg rfl
  clear hg
  go_enter Try.func30,Try.ntmps30
  go_wp2
  go_ret
  exact ⟨rfl,rfl⟩
theorem z6Pd (h:NoPl w A) (n:Int):Calls Try.prog 40 #[.pointer A,.int .i64 n] w fun e w'=>e=.returned (.tuple #[.pointer none,.int .i64 1])/\w=w':=by
 have HT:=qh (z1Ya h)
 clear h
 go_enter Try.func40,Try.ntmps40
 go_wp2_with fail
 refine HT.out.mono ?_
 rintro e wx ⟨rfl,rfl⟩
 go_wp2
 go_ret2
 exact ⟨rfl,rfl⟩
theorem zcar (h:NoPl w A) (n:Int):Calls Try.prog 13 #[.pointer A,.int .i64 n] w fun e w'=>e=.returned (.tuple #[.slice none 0 0,.int .i64 1])/\w=w':=by
 have HT:=qh (z6Pd h n)
 clear h
 go_enter Try.func13,Try.ntmps13
 go_wp2_with fail
 refine HT.out.mono ?_
 rintro e wx ⟨rfl,rfl⟩
 go_wp2
 go_ret2
 exact ⟨rfl,rfl⟩
theorem zxas (h:NoPl w A) (n:Int):Calls Try.prog 15 #[.pointer A,.int .i64 n] w fun e w'=>e=.returned (.int .i64 1)/\w=w':=by
 have HT:=qh (z6Pd h n)
 clear h
 go_enter Try.func15,Try.ntmps15
 go_wp2_with fail
 refine HT.out.mono ?_
 rintro e wx ⟨rfl,rfl⟩
 go_wp2
 go_ret
 exact ⟨rfl,rfl⟩
theorem zvPr (h:NoPl w A) (n:Int):Calls Try.prog 16 #[.pointer A,.int .i64 n] w fun e w'=>e=.returned (.bool false)/\w=w':=by
 have HT:=qh (z1Ya h)
 clear h
 go_enter Try.func16,Try.ntmps16
 go_wp2_with fail
 refine HT.out.mono ?_
 rintro e wx ⟨rfl,rfl⟩
 go_wp2
 go_ret
 exact ⟨rfl,rfl⟩
theorem zIDp (h:NoPl w A):Calls Try.prog 12 #[.pointer A] w fun e w'=>e=.returned (.slice none 0 0)/\w=w':=by
 have HT:=qh (z1Ya h)
 clear h
 go_enter Try.func12,Try.ntmps12
 go_wp2_with fail
 refine HT.out.mono ?_
 rintro e wx ⟨rfl,rfl⟩
 go_wp2
 go_ret
 exact ⟨rfl,rfl⟩
theorem zWjj (h:NoPl w A):Calls Try.prog 17 #[.pointer A] w fun e w'=>e=.returned (.int .i64 1)/\w=w':=by
 have HT:=qh (z1Ya h)
 clear h
 go_enter Try.func17,Try.ntmps17
 go_wp2_with fail
 refine HT.out.mono ?_
 rintro e wx ⟨rfl,rfl⟩
 go_wp2
 go_ret
 exact ⟨rfl,rfl⟩
theorem zD9H (h:NoPl w A):Calls Try.prog 11 #[.pointer A] w fun e w'=>e=.returned (.int .i64 0)/\w=w':=by
 have HT:=qh (z1Ya h)
 clear h
 go_enter Try.func11,Try.ntmps11
 go_wp2_with fail
 refine HT.out.mono ?_
 rintro e wx ⟨rfl,rfl⟩
 go_wp2
 go_ret
 exact ⟨rfl,rfl⟩
theorem zA28 (h:NoPl w A):Calls Try.prog 8 #[.pointer A] w fun e w'=>e=.returned (.int .i64 0)/\w=w':=by
 have HT:=qh (z1Ya h)
 clear h
 go_enter Try.func8,Try.ntmps8
 go_wp2_with fail
 refine HT.out.mono ?_
 rintro e wx ⟨rfl,rfl⟩
 go_wp2
 go_ret
 exact ⟨rfl,rfl⟩
theorem zrDu (h:NoPl w A) (b o:Int) (A1:Option Addr) (n1 c1:Nat) (A2:Option Addr) (n2 c2:Nat) (lsn:Int):Calls Try.prog 14 #[.pointer A,.agg (spnC b o A1 n1 c1 A2 n2 c2),.int .i64 lsn] w fun e w'=>e=.returned (.int .i64 1)/\Kept (fun _=>False) w w':=by
 have HT:=qh (fun w' (hk:Kept (fun _=>False) w w')=>z1Ya (h.keep hk))
 clear h
 go_enter Try.func14,Try.ntmps14
 go_wp2_with (refine znBH rfl 42 _ rfl (.agg (spnC b o A1 n1 c1 A2 n2 c2)) rfl ?_)
 intro g w1 l1 m1 hb1 hk1
 have HK:=qh hk1
 clear hb1 hk1 l1 m1
 go_wp2_with fail
 refine (HT.out _ HK.out).mono ?_
 rintro e wx ⟨rfl,rfl⟩
 go_wp2
 go_ret
 exact ⟨rfl,HK.out⟩
end
end Go.Proofs.Ytnbfhdgojmflhaa
