/-
  No statement is proved here.
-/
import Derived.Test.YtnbfhdgojmflhaaJQra
namespace Go.Proofs.Ytnbfhdgojmflhaa
open Go.RowKit
section
variable {w w' w1:World} {a:Adr} {P:PoolM} {L:LogM} {D:DevM}
theorem isI0:isI 0:=by unfold isI;decide
theorem isI1:isI 1:=by unfold isI;decide
theorem bSp3 (p o:Int) (A:Option Addr) (n c:Nat) (wz:World):(Instr.build 42 #[(0,.int .i64 p),(1,.int .i64 o),(2,.slice A n c),(3,.slice A n c)]).run Try.prog wz=.ok (.agg #[.int .i64 p,.int .i64 o,.slice A n c,.slice A n c]) wz:=run_build wz _ _ _ (by kernel_rfl)
theorem bRc (p o:Int) (A:Option Addr) (n c:Nat) (wz:World):(Instr.build 78 #[(2,.int .u8 1),(3,.int .i64 1),(6,.agg #[.int .i64 p,.int .i64 o,.slice A n c,.slice A n c])]).run Try.prog wz =
  .ok (.agg #[.int .i64 0,.int .i64 0,.int .u8 1,.int .i64 1,.int .i64 0,.int .i64 0,.int .i64 p,.int .i64 o,.slice A n c,.slice A n c]) wz:=run_build wz _ _ _ (by kernel_rfl)
theorem bRm (wz:World):(Instr.build 78 #[(2,.int .u8 3),(3,.int .i64 1)]).run Try.prog wz=.ok (.agg (recC comR none 0 none 0)) wz:=run_build wz _ _ _ (by kernel_rfl)
set_option maxRecDepth 100000 in
set_option maxHeartbeats 3200000 in
theorem zq0U {rg:Nat} (h:RigS w rg a P L D) (hg:LogG L) (page off:Int) (hp:isI page) (ho:isI off) (OA:Option Addr) (on oc:Nat) (NA:Option Addr) (m:Bytes) (nc:Nat) (hml:m.length<=1000000)
  (hm:RdB w NA m) (hmK:∀ b o,NA=some ⟨b,o,none⟩->b < w.heap.size->¬ a.K b) :
  Calls Try.prog 29 #[ptrV rg,.agg (spnC page off OA on oc NA m.length nc)] w fun e w'=>e=.returned (.int .i64 (app1M L D (chR page off m)).2.2)/\∃ a',AdrTo w a w' a'/\RigS w' rg a' P (app1M L D (chR page off m)).1 (app1M L D (chR page off m)).2.1:=by
 obtain ⟨POST,hPOST⟩:∃ POST:Ending->World->Prop,POST=(fun e w'=>e=.returned (.int .i64 (app1M L D (chR page off m)).2.2)/\∃ a',AdrTo w a w' a'/\RigS w' rg a' P (app1M L D (chR page off m)).1 (app1M L D (chR page off m)).2.1):=⟨_,rfl⟩
 have HPO:=qh (show ∀ (w':World) (a':Adr) (L':LogM) (D':DevM) (n:Int),app1M L D (chR page off m)=(L',D',n)->AdrTo w a w' a'->PoolS w' a' P L' D'->POST (.returned (.int .i64 n)) w' from fun w' a' L' D' n e h1 h2=>by
  rw [hPOST,e];exact ⟨rfl,a',h1,h.to h1 h2⟩)
 rw [<- hPOST]
 obtain ⟨r,hr⟩:∃ r,r=chR page off m:=⟨_,rfl⟩
 rw [<- hr] at HPO
 have HRO:=qh (show RecOk r from by rw [hr];exact ⟨isI0,isI0,isI1,isI0,isI0,hp,ho⟩)
 have HRN:=qh (show r.new=m/\r.old=m from by rw [hr];exact ⟨rfl,rfl⟩)
 have HRC:=qh (show (#[.int .i64 0,.int .i64 0,.int .u8 1,.int .i64 1,.int .i64 0,.int .i64 0,.int .i64 page,.int .i64 off,.slice NA m.length nc,.slice NA m.length nc]:Array Value)=recC r NA nc NA nc from by rw [hr];rfl)
 have H:=qh h
 have HG:=qh hg
 have HM:=qh hm
 have HMK:=qh hmK
 obtain ⟨n,hnl⟩:∃ n,n=m.length:=⟨_,rfl⟩
 rw [<- hnl] at HRC hml ⊢
 have HNL:=qh hnl
 clear h hg hp ho hm hmK hPOST hr hnl
 unfold ptrV
 have BS:=fun wz=>bSp3 page off NA n nc wz
 have BR:=fun wz=>bRc page off NA n nc wz
 go_enter Try.func29,Try.ntmps29
 go_wp2_with (refine znBH rfl 42 _ rfl (.agg (spnC page off OA on oc NA n nc)) rfl ?_)
 intro sb wa hs0 hs1 hsb hka
 have HKA:=qh hka
 have s0:wa.cell? ⟨sb,0,none⟩=some (.int .i64 page):=zcjX hsb rfl
 have s1:wa.cell? ⟨sb,1,none⟩=some (.int .i64 off):=zcjX hsb rfl
 have s3:wa.cell? ⟨sb,3,none⟩=some (.slice NA n nc):=zcjX hsb rfl
 clear hs0 hs1 hsb hka
 have Z0:=zzWm
 go_wp2_with (refine zNko rfl 78 rfl zRecC zzWm ?_)
 intro rb wb hr0 hr1 hrb hkb
 refine zxQF rfl 78 _ _ rfl rb (recC r NA nc NA nc) zRecC rfl (by rw [<- HRC.out];rfl) hrb zWmC rfl (zh6u _ _ _ _ _) ?_
 intro wc hbc hkc
 have hkac:Kept (fun _=>False) w wc:=(HKA.out.trans0 hkb).new hkc (fun z hz=>by subst hz;have:=HKA.out.size;omega)
 have HKC:=qh hkac
 have HRB:=qh (show wc.heap[rb]?=some (.cells (recC r NA nc NA nc) 78 (0,0)) from hbc)
 have HR:=qh (H.out.keep0 hkac)
 have HMC:=qh (HM.out.kept hkac (fun _ _ _ _=>id))
 have hrbw:w.heap.size<=rb:=by have:=HKA.out.size;omega
 have HRBK:=qh (show ¬ a.K rb from fun e=>by have:=H.out.s.lt e;omega)
 have HC:=qh (fun (w':World) (a':Adr) (hf:a.Fix a') (h:w'.heap[rg]?=some (.cells (rigC a) 28 (0,0)))=>show w'.cell? ⟨rg,1,none⟩=some (.pointer (some ⟨a.q,0,none⟩)) from zcjX h rfl)
 have HAP:=qh (H.out.keep0 (w':=wc) hkac |>.s.keep0 ((Kept.refl (fun _=>False) wc).drew) |>.app HG.out a.q rfl r NA nc NA nc HRO.out (by rw [HRN.out.2,<- HNL.out];exact hml) (by rw [HRN.out.1,<- HNL.out];exact hml) (by rw [HRN.out.2];exact HMC.out.kept ((Kept.refl (fun _=>False) wc).drew) (fun _ _ _ _=>id)) (by rw [HRN.out.1];exact HMC.out.kept ((Kept.refl (fun _=>False) wc).drew) (fun _ _ _ _=>id)))
 have HS0:=qh (show (wc.drew).heap[rg]?=some (.cells (rigC a) 28 (0,0))/\(wc.drew).heap[rb]?=some (.cells (recC r NA nc NA nc) 78 (0,0)) from ⟨HR.out.hr,HRB.out⟩)
 clear BS BR hrb hkb hbc hkc hkac s0 s1 s3 Z0 hr0 hr1
 go_wp2_with fail
 refine znCh 10 (fun w'=>w'.heap[rg]?=some (.cells (rigC a) 28 (0,0))/\w'.heap[rb]?=some (.cells (recC r NA nc NA nc) 78 (0,0))) (by kernel_rfl) HS0.out (fun hH=>?_)
 simp only [List.length_cons,List.length_nil,List.replicate]
 refine tK 0 ?_ (fun w' hw'=>?_) hH ?_
 rotate_left
 ·have c1:=HC.out w' a (.refl a) hw'.1
  go_simp<;>with_reducible rfl
 simp only [Act.put,oZa,oZb,oZc]
 refine tK 1 ?_ (fun w' hw'=>?_) hH ?_
 rotate_left
 ·have c1:=HC.out w' a (.refl a) hw'.1
  go_simp<;>with_reducible rfl
 simp only [Act.put,oZa,oZb,oZc]
 refine tK 2 ?_ (fun w' hw'=>?_) hH ?_
 rotate_left
 ·have c1:=HC.out w' a (.refl a) hw'.1
  go_simp<;>with_reducible rfl
 simp only [Act.put,oZa,oZb,oZc]
 refine tK 3 ?_ (fun w' hw'=>?_) hH ?_
 rotate_left
 ·have c1:=HC.out w' a (.refl a) hw'.1
  go_simp<;>with_reducible rfl
 simp only [Act.put,oZa,oZb,oZc]
 refine tK 4 ?_ (fun w' hw'=>?_) hH ?_
 rotate_left
 ·obtain ⟨r0,r1,r2,r3,r4,r5,r6,r7,r8,r9⟩:=z89M hw'.2
  go_simp<;>with_reducible rfl
 simp only [Act.put,oZa,oZb,oZc]
 refine stepL 5 rfl (by kernel_rfl) (fun K hK=>?_)
 go_simp
 refine HAP.out.mono ?_
 rintro e w5 ⟨rfl,a1,hs1,ht1⟩
 obtain ⟨X,hX⟩:∃ X,X=L.append r:=⟨_,rfl⟩
 rw [<- hX] at hs1 ⊢
 have HX:=qh hX
 have HS1:=qh hs1
 have HT1:=qh ((AdrTo.keep0 (AdrTo.refl w a) HKC.out.drew).trans ht1)
 have HG5:=qh (ht1.k.heap HS0.out.1 HR.out.ne)
 have HB5:=qh (ht1.k.heap HS0.out.2 HRBK.out)
 clear hs1 ht1 hX HAP
 go_simp
 refine hK.out _ _ (fun _=>⟨HG5.out,HB5.out⟩) (fun _=>?_)
 simp only [oZa,oZb,oZc]
 clear hK K hH
 refine takeL 6 ?_ rfl (by kernel_rfl) (fun _ _ _ h=>h) (by rfl) (fun w' hw'=>?_) ⟨HG5.out,HB5.out⟩ ?_
 rotate_left
 ·skip
  go_simp<;>with_reducible rfl
 simp only [Act.put,oZa,oZb,oZc]
 refine takeL 7 ?_ rfl (by kernel_rfl) (fun _ _ _ h=>h) (by rfl) (fun w' hw'=>?_) ⟨HG5.out,HB5.out⟩ ?_
 rotate_left
 ·skip
  go_simp<;>with_reducible rfl
 simp only [Act.put,oZa,oZb,oZc]
 refine takeL 8 ?_ rfl (by kernel_rfl) (fun _ _ _ h=>h) (by rfl) (fun w' hw'=>?_) ⟨HG5.out,HB5.out⟩ ?_
 rotate_left
 ·skip
  go_simp<;>with_reducible rfl
 simp only [Act.put,oZa,oZb,oZc]
 refine takeL 9 ?_ rfl (by kernel_rfl) (fun _ _ _ h=>h) (by rfl) (fun w' hw'=>?_) ⟨HG5.out,HB5.out⟩ ?_
 rotate_left
 ·skip
  go_simp<;>with_reducible rfl
 simp only [Act.put,oZa,oZb,oZc]
 refine stepL 10 rfl (by kernel_rfl) (fun K hK=>?_)
 go_simp
 refine hK.out _ _ (fun h=>absurd rfl h) (fun _=>?_)
 simp only [oZa,oZb,oZc]
 clear hK K
 refine doneL (by kernel_rfl) ?_ _
 obtain ⟨E,hE⟩:∃ E,E=X.2.2:=⟨_,rfl⟩
 rw [<- hE]
 have HEE:=qh hE
 clear hE
 go_upto_if 28 with fail
 go_cut [6,7] from 28 to 56 (fun v6 v7 wx=>∃ a2 L2 D2 n2 e2,v6=.int .i64 n2/\v7=.int .i64 e2/\PoolS wx a2 P L2 D2/\AdrTo w a wx a2/\(e2≠0->LogG L2)/\wx.heap[rg]?=some (.cells (rigC a) 28 (0,0)) /\
  app1M L D r=(if e2≠0 then ((L2.append comR).1,D2,(L2.append comR).2.1) else (L2,D2,n2)))
 case first=>
  by_cases he:E=5
  ·have hx5:X.2.2=5:=HEE.out.symm.trans he
   have hxL:X.1=L:=by rw [HX.out];exact zCPY (by rw [<- HX.out,hx5];decide)
   rw [hxL] at HS1
   have HF:=qh ((HS1.out.keep0 ((Kept.refl (fun _=>False) w5).drew)).forceA HG.out a.q HT1.out.fix.q)
   obtain ⟨Y,hY⟩:∃ Y,Y=L.force D:=⟨_,rfl⟩
   rw [<- hY] at HF
   have HY:=qh (show app1M L D r=(if Y.2.2≠0 then (Y.1,Y.2.1,0) else
    if (Y.1.trim Y.1.fin).2≠0 then ((Y.1.trim Y.1.fin).1,Y.2.1,0) else
    if ((Y.1.trim Y.1.fin).1.append r).2.2≠0 then ((((Y.1.trim Y.1.fin).1.append r).1.append comR).1,Y.2.1,(((Y.1.trim Y.1.fin).1.append r).1.append comR).2.1) else (((Y.1.trim Y.1.fin).1.append r).1,Y.2.1,((Y.1.trim Y.1.fin).1.append r).2.1)) from by
    unfold app1M;rw [<- HX.out];dsimp only;rw [if_pos hx5,<- hY])
   have HGY:=qh (show LogG Y.1 from by rw [hY];exact HG.out.force D)
   have heb:(E == 5)=true:=by rw [he];rfl
   clear hx5 hxL hY he
   go_wp2_with fail
   refine znCh 18 (fun w'=>w'.heap[rg]?=some (.cells (rigC a) 28 (0,0))) (by kernel_rfl) HG5.out (fun hH=>?_)
   simp only [List.length_cons,List.length_nil,List.replicate]
   refine tK 0 ?_ (fun w' hw'=>?_) hH ?_
   rotate_left
   ·have c1:=HC.out w' a (.refl a) hw'
    go_simp<;>with_reducible rfl
   simp only [Act.put,oZa,oZb,oZc]
   refine tK 1 ?_ (fun w' hw'=>?_) hH ?_
   rotate_left
   ·have c1:=HC.out w' a (.refl a) hw'
    go_simp<;>with_reducible rfl
   simp only [Act.put,oZa,oZb,oZc]
   refine tK 2 ?_ (fun w' hw'=>?_) hH ?_
   rotate_left
   ·have c1:=HC.out w' a (.refl a) hw'
    go_simp<;>with_reducible rfl
   simp only [Act.put,oZa,oZb,oZc]
   refine tK 3 ?_ (fun w' hw'=>?_) hH ?_
   rotate_left
   ·have c1:=HC.out w' a (.refl a) hw'
    go_simp<;>with_reducible rfl
   simp only [Act.put,oZa,oZb,oZc]
   refine stepL 4 rfl (by kernel_rfl) (fun K hK=>?_)
   go_simp
   refine HF.out.mono ?_
   rintro e w6 ⟨rfl,a2,hs2,ht2⟩
   have HS2:=qh hs2
   have HT2:=qh ((HT1.out.keep0 ((Kept.refl (fun _=>False) w5).drew)).trans ht2)
   have hne2:¬ a1.K rg:=HS1.out.notT ⟨_,_,HG5.out⟩ (by decide) (by decide) (by decide) (by decide) (by decide) (by decide) (by decide)
   have HG6:=qh (ht2.k.heap (show (w5.drew).heap[rg]?=_ from HG5.out) hne2)
   obtain ⟨YE,hYE⟩:∃ YE,YE=Y.2.2:=⟨_,rfl⟩
   rw [<- hYE]
   have HYE:=qh hYE
   have hrb6:¬ a1.K rb:=HS1.out.notT ⟨_,_,HB5.out⟩ (by decide) (by decide) (by decide) (by decide) (by decide) (by decide) (by decide)
   have HB6:=qh (ht2.k.heap (show (w5.drew).heap[rb]?=_ from HB5.out) hrb6)
   clear hs2 ht2 hYE HF hne2
   go_simp
   refine hK.out _ _ (fun _=>HG6.out) (fun _=>?_)
   simp only [oZa,oZb,oZc]
   clear hK K hH
   by_cases hy:YE=0
   ·have HEN:=qh (show Calls Try.prog 33 #[.pointer (some ⟨a.q,0,none⟩)] w6 fun e w'=>e=.returned (.int .i64 Y.1.fin)/\w6=w' from by
     have:=z4JP w6 a2.q a2.p a2.lv a2.tv Y.1 HS2.out.log.hq
     rw [HT2.out.fix.q] at this;exact this)
    have HTR:=qh (HS2.out.trim HGY.out a.q HT2.out.fix.q Y.1.fin)
    obtain ⟨Z,hZ⟩:∃ Z,Z=Y.1.trim Y.1.fin:=⟨_,rfl⟩
    rw [<- hZ] at HTR HY
    have HGZ:=qh (show LogG Z.1 from by rw [hZ];exact HGY.out.trimEnd)
    subst hy
    clear hZ
    refine tK 5 ?_ (fun w' hw'=>?_) HG6.out ?_
    rotate_left
    ·skip
     go_simp<;>with_reducible rfl
    simp only [Act.put,oZa,oZb,oZc]
    refine tK 6 ?_ (fun w' hw'=>?_) HG6.out ?_
    rotate_left
    ·skip
     go_simp<;>with_reducible rfl
    simp only [Act.put,oZa,oZb,oZc]
    refine tK 7 ?_ (fun w' hw'=>?_) HG6.out ?_
    rotate_left
    ·have c1:=HC.out w' a (.refl a) hw'
     go_simp<;>with_reducible rfl
    simp only [Act.put,oZa,oZb,oZc]
    refine tK 8 ?_ (fun w' hw'=>?_) HG6.out ?_
    rotate_left
    ·have c1:=HC.out w' a (.refl a) hw'
     go_simp<;>with_reducible rfl
    simp only [Act.put,oZa,oZb,oZc]
    refine tK 9 ?_ (fun w' hw'=>?_) HG6.out ?_
    rotate_left
    ·have c1:=HC.out w' a (.refl a) hw'
     go_simp<;>with_reducible rfl
    simp only [Act.put,oZa,oZb,oZc]
    refine tK 10 ?_ (fun w' hw'=>?_) HG6.out ?_
    rotate_left
    ·have c1:=HC.out w' a (.refl a) hw'
     go_simp<;>with_reducible rfl
    simp only [Act.put,oZa,oZb,oZc]
    refine tK 11 ?_ (fun w' hw'=>?_) HG6.out ?_
    rotate_left
    ·have c1:=HC.out w' a (.refl a) hw'
     go_simp<;>with_reducible rfl
    simp only [Act.put,oZa,oZb,oZc]
    refine tK 12 ?_ (fun w' hw'=>?_) HG6.out ?_
    rotate_left
    ·have c1:=HC.out w' a (.refl a) hw'
     go_simp<;>with_reducible rfl
    simp only [Act.put,oZa,oZb,oZc]
    refine tK 13 ?_ (fun w' hw'=>?_) HG6.out ?_
    rotate_left
    ·have c1:=HC.out w' a (.refl a) hw'
     go_simp<;>with_reducible rfl
    simp only [Act.put,oZa,oZb,oZc]
    refine tK 14 ?_ (fun w' hw'=>?_) HG6.out ?_
    rotate_left
    ·have c1:=HC.out w' a (.refl a) hw'
     go_simp<;>with_reducible rfl
    simp only [Act.put,oZa,oZb,oZc]
    refine stepL 15 rfl (by kernel_rfl) (fun K hK=>?_)
    go_simp
    refine HEN.out.mono ?_
    rintro e wx ⟨rfl,rfl⟩
    go_simp
    refine hK.out _ _ (fun _=>HG6.out) (fun _=>?_)
    simp only [oZa,oZb,oZc]
    clear hK K
    refine stepL 16 rfl (by kernel_rfl) (fun K hK=>?_)
    go_simp
    refine HTR.out.mono ?_
    rintro e w7 ⟨rfl,a3,hs3,ht3⟩
    have HS3:=qh hs3
    have HT3:=qh (HT2.out.trans ht3)
    have hne3:¬ a2.K rg:=HS2.out.notT ⟨_,_,HG6.out⟩ (by decide) (by decide) (by decide) (by decide) (by decide) (by decide) (by decide)
    have hrb7:¬ a2.K rb:=HS2.out.notT ⟨_,_,HB6.out⟩ (by decide) (by decide) (by decide) (by decide) (by decide) (by decide) (by decide)
    have HG7:=qh (ht3.k.heap HG6.out hne3)
    have HB7:=qh (ht3.k.heap HB6.out hrb7)
    obtain ⟨ZE,hZE⟩:∃ ZE,ZE=Z.2:=⟨_,rfl⟩
    rw [<- hZE]
    have HZE:=qh hZE
    clear hs3 ht3 hZE HTR HEN hne3 hrb7 hrb6
    go_simp
    refine hK.out _ _ (fun _=>HG7.out) (fun _=>?_)
    simp only [oZa,oZb,oZc]
    clear hK K
    refine tK 17 ?_ (fun w' hw'=>?_) HG7.out ?_
    rotate_left
    ·skip
     go_simp<;>with_reducible rfl
    simp only [Act.put,oZa,oZb,oZc]
    refine stepL 18 rfl (by kernel_rfl) (fun K hK=>?_)
    go_simp
    refine hK.out _ _ (fun h=>absurd rfl h) (fun _=>?_)
    simp only [oZa,oZb,oZc]
    clear hK K
    refine doneL (by kernel_rfl) ?_ _
    by_cases hz:ZE=0
    ·have HM7:=qh (HM.out.kept HT3.out.k (fun b o e hlt=>HMK.out b o e hlt))
     have HAP:=qh (HS3.out.keep0 ((Kept.refl (fun _=>False) w7).drew) |>.app HGZ.out a.q HT3.out.fix.q r NA nc NA nc HRO.out (by rw [HRN.out.2,<- HNL.out];exact hml) (by rw [HRN.out.1,<- HNL.out];exact hml) (by rw [HRN.out.2];exact HM7.out.kept ((Kept.refl (fun _=>False) w7).drew) (fun _ _ _ _=>id)) (by rw [HRN.out.1];exact HM7.out.kept ((Kept.refl (fun _=>False) w7).drew) (fun _ _ _ _=>id)))
     obtain ⟨V,hV⟩:∃ V,V=Z.1.append r:=⟨_,rfl⟩
     rw [<- hV] at HAP HY
     have HV:=qh hV
     have HS7:=qh (show (w7.drew).heap[rg]?=some (.cells (rigC a) 28 (0,0))/\(w7.drew).heap[rb]?=some (.cells (recC r NA nc NA nc) 78 (0,0)) from ⟨HG7.out,HB7.out⟩)
     subst hz
     clear hV
     go_wp2_with fail
     refine znCh 10 (fun w'=>w'.heap[rg]?=some (.cells (rigC a) 28 (0,0))/\w'.heap[rb]?=some (.cells (recC r NA nc NA nc) 78 (0,0))) (by kernel_rfl) HS7.out (fun hH=>?_)
     simp only [List.length_cons,List.length_nil,List.replicate]
     refine tK 0 ?_ (fun w' hw'=>?_) hH ?_
     rotate_left
     ·have c1:=HC.out w' a (.refl a) hw'.1
      go_simp<;>with_reducible rfl
     simp only [Act.put,oZa,oZb,oZc]
     refine tK 1 ?_ (fun w' hw'=>?_) hH ?_
     rotate_left
     ·have c1:=HC.out w' a (.refl a) hw'.1
      go_simp<;>with_reducible rfl
     simp only [Act.put,oZa,oZb,oZc]
     refine tK 2 ?_ (fun w' hw'=>?_) hH ?_
     rotate_left
     ·have c1:=HC.out w' a (.refl a) hw'.1
      go_simp<;>with_reducible rfl
     simp only [Act.put,oZa,oZb,oZc]
     refine tK 3 ?_ (fun w' hw'=>?_) hH ?_
     rotate_left
     ·have c1:=HC.out w' a (.refl a) hw'.1
      go_simp<;>with_reducible rfl
     simp only [Act.put,oZa,oZb,oZc]
     refine tK 4 ?_ (fun w' hw'=>?_) hH ?_
     rotate_left
     ·obtain ⟨r0,r1,r2,r3,r4,r5,r6,r7,r8,r9⟩:=z89M hw'.2
      go_simp<;>with_reducible rfl
     simp only [Act.put,oZa,oZb,oZc]
     refine stepL 5 rfl (by kernel_rfl) (fun K hK=>?_)
     go_simp
     refine HAP.out.mono ?_
     rintro e w8 ⟨rfl,a4,hs4,ht4⟩
     have HS4:=qh hs4
     have HT4:=qh ((HT3.out.keep0 ((Kept.refl (fun _=>False) w7).drew)).trans ht4)
     have hne4:¬ a3.K rg:=HS3.out.notT ⟨_,_,HG7.out⟩ (by decide) (by decide) (by decide) (by decide) (by decide) (by decide) (by decide)
     have hrb8:¬ a3.K rb:=HS3.out.notT ⟨_,_,HB7.out⟩ (by decide) (by decide) (by decide) (by decide) (by decide) (by decide) (by decide)
     have HG8:=qh (ht4.k.heap HS7.out.1 hne4)
     have HB8:=qh (ht4.k.heap HS7.out.2 hrb8)
     clear hs4 ht4 HAP hne4 hrb8
     go_simp
     refine hK.out _ _ (fun _=>⟨HG8.out,HB8.out⟩) (fun _=>?_)
     simp only [oZa,oZb,oZc]
     clear hK K hH
     refine takeL 6 ?_ rfl (by kernel_rfl) (fun _ _ _ h=>h) (by rfl) (fun w' hw'=>?_) ⟨HG8.out,HB8.out⟩ ?_
     rotate_left
     ·skip
      go_simp<;>with_reducible rfl
     simp only [Act.put,oZa,oZb,oZc]
     refine takeL 7 ?_ rfl (by kernel_rfl) (fun _ _ _ h=>h) (by rfl) (fun w' hw'=>?_) ⟨HG8.out,HB8.out⟩ ?_
     rotate_left
     ·skip
      go_simp<;>with_reducible rfl
     simp only [Act.put,oZa,oZb,oZc]
     refine takeL 8 ?_ rfl (by kernel_rfl) (fun _ _ _ h=>h) (by rfl) (fun w' hw'=>?_) ⟨HG8.out,HB8.out⟩ ?_
     rotate_left
     ·skip
      go_simp<;>with_reducible rfl
     simp only [Act.put,oZa,oZb,oZc]
     refine takeL 9 ?_ rfl (by kernel_rfl) (fun _ _ _ h=>h) (by rfl) (fun w' hw'=>?_) ⟨HG8.out,HB8.out⟩ ?_
     rotate_left
     ·skip
      go_simp<;>with_reducible rfl
     simp only [Act.put,oZa,oZb,oZc]
     refine stepL 10 rfl (by kernel_rfl) (fun K hK=>?_)
     go_simp
     refine hK.out _ _ (fun h=>absurd rfl h) (fun _=>?_)
     simp only [oZa,oZb,oZc]
     clear hK K
     refine doneL (by kernel_rfl) ?_ _
     go_wp2
     go_meet
     case rel=>
      refine ⟨a4,V.1,Y.2.1,V.2.1,V.2.2,rfl,rfl,HS4.out,HT4.out,fun h=>?_,HG8.out,?_⟩
      ·rw [HV.out,zCPY (by rw [<- HV.out];exact h)];exact HGZ.out
      ·rw [HY.out,if_neg (fun h=>h HYE.out.symm),if_neg (fun h=>h HZE.out.symm)]
    ·have hzb:(ZE != 0)=true:=by rw [bne_iff_ne];exact hz
     have HX5:=qh (show app1M L D r=(Z.1,Y.2.1,0) from by rw [HY.out,if_neg (fun h=>h HYE.out.symm),if_pos (fun h=>hz (HZE.out.trans h))])
     go_wp2
     exact HPO.out w7 a3 _ _ 0 HX5.out HT3.out HS3.out
   ·have hyb:(YE != 0)=true:=by rw [bne_iff_ne];exact hy
    have HX5:=qh (show app1M L D r=(Y.1,Y.2.1,0) from by rw [HY.out,if_pos (fun h=>hy (HYE.out.trans h))])
    refine tK 5 ?_ (fun w' hw'=>?_) HG6.out ?_
    rotate_left
    ·skip
     go_simp<;>with_reducible rfl
    simp only [Act.put,oZa,oZb,oZc]
    refine tK 6 ?_ (fun w' hw'=>?_) HG6.out ?_
    rotate_left
    ·skip
     go_simp<;>with_reducible rfl
    simp only [Act.put,oZa,oZb,oZc]
    refine skipL 7 rfl (by kernel_rfl) (fun _ _ _ h=>h) (by rfl) HG6.out ?_
    simp only [Act.put,oZa,oZb,oZc]
    refine skipL 8 rfl (by kernel_rfl) (fun _ _ _ h=>h) (by rfl) HG6.out ?_
    simp only [Act.put,oZa,oZb,oZc]
    refine skipL 9 rfl (by kernel_rfl) (fun _ _ _ h=>h) (by rfl) HG6.out ?_
    simp only [Act.put,oZa,oZb,oZc]
    refine skipL 10 rfl (by kernel_rfl) (fun _ _ _ h=>h) (by rfl) HG6.out ?_
    simp only [Act.put,oZa,oZb,oZc]
    refine skipL 11 rfl (by kernel_rfl) (fun _ _ _ h=>h) (by rfl) HG6.out ?_
    simp only [Act.put,oZa,oZb,oZc]
    refine skipL 12 rfl (by kernel_rfl) (fun _ _ _ h=>h) (by rfl) HG6.out ?_
    simp only [Act.put,oZa,oZb,oZc]
    refine skipL 13 rfl (by kernel_rfl) (fun _ _ _ h=>h) (by rfl) HG6.out ?_
    simp only [Act.put,oZa,oZb,oZc]
    refine skipL 14 rfl (by kernel_rfl) (fun _ _ _ h=>h) (by rfl) HG6.out ?_
    simp only [Act.put,oZa,oZb,oZc]
    refine skipL 15 rfl (by kernel_rfl) (fun _ _ _ h=>h) (by rfl) HG6.out ?_
    simp only [Act.put,oZa,oZb,oZc]
    refine skipL 16 rfl (by kernel_rfl) (fun _ _ _ h=>h) (by rfl) HG6.out ?_
    simp only [Act.put,oZa,oZb,oZc]
    refine skipL 17 rfl (by kernel_rfl) (fun _ _ _ h=>h) (by rfl) HG6.out ?_
    simp only [Act.put,oZa,oZb,oZc]
    refine stepL 18 rfl (by kernel_rfl) (fun K hK=>?_)
    go_simp
    refine hK.out _ _ (fun h=>absurd rfl h) (fun _=>?_)
    simp only [oZa,oZb,oZc]
    clear hK K
    refine doneL (by kernel_rfl) ?_ _
    go_wp2
    exact HPO.out w6 a2 _ _ 0 HX5.out HT2.out HS2.out
  ·have heb:(E == 5)=false:=by rw [beq_eq_false_iff_ne];exact he
   have HE:=qh he
   clear he
   go_wp2
   go_meet
   case rel=>
    refine ⟨a1,X.1,D,X.2.1,E,rfl,rfl,HS1.out,HT1.out,fun h=>?_,HG5.out,?_⟩
    ·rw [HX.out,zCPY (by rw [<- HX.out,<- HEE.out];exact h)];exact HG.out
    ·unfold app1M
     rw [<- HX.out]
     dsimp only
     rw [if_neg (fun h=>HE.out (HEE.out.trans h)),HEE.out]
 case rest=>
  obtain ⟨a2,L2,D2,n2,e2,rfl,rfl,hs2,ht2,hg2,hr2,hx2⟩:=hcut
  have HS2:=qh hs2
  have HT2:=qh ht2
  have HX2:=qh hx2
  by_cases he:e2=0
  ·have HX3:=qh (show app1M L D r=(L2,D2,n2) from by rw [hx2,if_neg (fun h=>h he)])
   subst he
   clear hs2 ht2 hg2 hr2 hx2
   go_wp2
   exact HPO.out wc a2 _ _ _ HX3.out HT2.out HS2.out
  ·have heb:(e2 != 0)=true:=by rw [bne_iff_ne];exact he
   have HX3:=qh (show app1M L D r=((L2.append comR).1,D2,(L2.append comR).2.1) from by rw [hx2,if_pos he])
   have c1:wc.cell? ⟨rg,1,none⟩=some (.pointer (some ⟨a.q,0,none⟩)):=zcjX hr2 rfl
   have HAP:=qh (hs2.app (hg2 he) a.q ht2.fix.q comR none 0 none 0 ⟨isI0,isI0,isI1,isI0,isI0,isI0,isI0⟩ (by decide) (by decide) (fun h=>absurd rfl h) (fun h=>absurd rfl h))
   have BM:=bRm
   clear hs2 ht2 hg2 hr2 hx2
   go_wp2_with fail
   refine HAP.out.mono ?_
   rintro e w8 ⟨rfl,a3,hs3,ht3⟩
   have HS3:=qh hs3
   have HT3:=qh (HT2.out.trans ht3)
   clear hs3 ht3
   go_wp2
   exact HPO.out w8 a3 _ _ _ HX3.out HT3.out HS3.out
end
end Go.Proofs.Ytnbfhdgojmflhaa
