/-
  No statement is proved here.
-/
import Derived.Test.YtfgagakepmigbaaGreatJSvf
import Derived.Test.YtfgagakepmigbaaGreatJLra
import Derived.Test.YtfgagakepmigbaaGreatJLrb
namespace Go.Proofs.YtfgagakepmigbaaGreat
open Go.RowKit
section
variable {w0 w w' w1 w2:World} {x x':BAdr} {S S' S1:BkA} {g g' B q r bk qs qy q':Nat} {tv ts ty t':Value} {Z Z' Y Y':SpM}
theorem zIUt.kept (h:zIUt w B q tv Z' w') {b:Nat} {o:Obj} (hb:w.heap[b]?=some o) (hn:¬ SpK q tv b):w'.heap[b]?=some o:=by
 obtain ⟨_,_,h2,_⟩:=h
 exact h2.heap hb hn
theorem RgM.up (h:RgM w0 w r bk x S g qs ts Z qy ty Y) {g':Nat} (hg:g<=g'):RgM w0 w r bk x S g' qs ts Z qy ty Y:=⟨h.hr,h.lr,⟨h.b.b.up hg,h.b.k,h.b.lk⟩,h.bk,h.z,h.y,h.dis⟩
theorem RgM.spf (h:RgM w0 w r bk x S g qs ts Z qy ty Y) (hv:Rel S' Z):SpF w w0.heap.size qs ts Z:=⟨h.z,hv.fit.1,hv.fit.2.1,hv.fit.2.2.2⟩
theorem Rel.tkl (hv:Rel S Z):Z.tk.length<=1000000:=by
 obtain ⟨h1,h2,-,h3 | h3⟩:=hv.fit
 ·rw [h3];decide
 ·omega
def zShC (w0:World) (r bk:Nat) (S:BkA) (g qs qy:Nat) (ty:Value) (Y:SpM) (v5 v6 v7 v8:Value) (wx:World):Prop:=
 ∃ (e f a c:Int) (x':BAdr) (S':BkA) (ts':Value) (Z':SpM),v5=.int .i64 e/\v6=.int .i64 f/\v7=.int .i64 a/\v8=.int .i64 c/\RgM w0 wx r bk x' S' g qs ts' Z' qy ty Y/\zy4p S S' Y e f Z'/\(e=f->a=c)
def zhK9 (w0:World) (r bk g:Nat) (e:Ending) (w':World):Prop:=e=.returned (.bool true)/\∃ x' S' qs' ts' Z' qy' ty' Y',RgM w0 w' r bk x' S' g qs' ts' Z' qy' ty' Y'/\LV S' Z' Y'/\Y'.tk.length<=1000000
set_option maxRecDepth 100000 in
set_option maxHeartbeats 3200000 in
theorem zjWF (h:RgM w0 w r bk x S g qs ts Z qy ty Y) (hv:LV S Z Y) (hY:Y.tk.length<=1000000) (hg:g<=1000000000 - 40) (op pg wh:Int):Calls Tryz.prog 27 #[ptrV r,.agg #[.int .i64 op,.int .i64 pg,.int .i64 wh]] w (zhK9 w0 r bk (g+21)):=by
 obtain ⟨POST,hPOST⟩:∃ POST,POST=zhK9 w0 r bk (g+21):=⟨_,rfl⟩
 rw [<- hPOST]
 have HPO:=qh (show ∀ w' x' S' g' qs' ts' Z' qy' ty' Y',RgM w0 w' r bk x' S' g' qs' ts' Z' qy' ty' Y'->g'<=g+21->LV S' Z' Y'->Y'.tk.length<=1000000->POST (.returned (.bool true)) w' from fun w' x' S' g' qs' ts' Z' qy' ty' Y' h1 h2 h3 h4=>by rw [hPOST];exact ⟨rfl,_,_,_,_,_,_,_,_,h1.up h2,h3,h4⟩)
 have HP:=qh (fun w=>zkAP op 11 (by decide) w)
 obtain ⟨q0,q1⟩:=z1m9 (x:=op) (n:=11) (by decide)
 obtain ⟨k,hk⟩:∃ k,k=pickM op 11:=⟨_,rfl⟩
 rw [<- hk] at HP q0 q1
 have H:=qh h
 have HV:=qh hv
 have HY:=qh hY
 have HZL:=qh hv.r.tkl
 unfold ptrV
 clear h hPOST hk hv hY
 go_enter Tryz.func27,Tryz.ntmps27
 go_wp2_with (refine znBH rfl 46 _ rfl (.agg #[.int .i64 op,.int .i64 pg,.int .i64 wh]) rfl ?_)
 intro gb w1 l1 m1 hb1 hk1
 have HX1:=qh (show w1.heap[gb]?=some (.cells #[.int .i64 op,.int .i64 pg,.int .i64 wh] 46 (0,0)) from hb1)
 have H1:=qh (H.out.keep0 hk1)
 have d0:w1.cell? ⟨gb,0,none⟩=some (.int .i64 op):=zcjX HX1.out rfl
 clear hb1 hk1 l1 m1 H
 go_wp2_with fail
 refine (HP.out _).mono ?_
 rintro e wx ⟨rfl,rfl⟩
 obtain ⟨c0,c1,c2⟩:=H1.out.cells
 have d1:=H1.out.z.cells.2.1
 clear d0 HP
 by_cases k0:k=0
 ·subst k0
  by_cases hT:S.inT=true
  ·have hZT:=HV.out.r.inT.trans hT
   rw [hZT] at d1
   obtain ⟨S1,e1,e2⟩:=HV.out.commit hT
   have HE:=Lib.hid e2
   have hb:=zMZC H1.out hZT e1 (by omega)
   unfold ptrV at hb
   have HC:=qh hb
   clear hb e1 e2 hZT hT
   go_wp2_with fail
   refine HC.out.mono ?_
   rintro e w2 ⟨rfl,x2,qs2,ts2,qy2,ty2,h1⟩
   have H2:=qh h1
   clear h1 HC
   go_wp2
   exact HPO.out _ _ _ _ _ _ _ _ _ _ H2.out (by omega) HE.out HY.out
  ·obtain ⟨hS,hZT⟩:=HV.out.not hT
   rw [hZT] at d1
   obtain ⟨S1,e1,e2⟩:=HV.out.begin hS
   have HE:=Lib.hid e2
   have hb:=zx4B H1.out hZT e1 HZL.out (by omega) 0
   unfold ptrV at hb
   have HC:=qh hb
   clear hb e1 e2 hZT hT hS
   go_wp2_with fail
   refine HC.out.mono ?_
   rintro e w2 ⟨rfl,x2,qs2,ts2,qy2,ty2,h1⟩
   have H2:=qh h1
   clear h1 HC
   go_wp2
   exact HPO.out _ _ _ _ _ _ _ _ _ _ H2.out (by omega) HE.out HZL.out
 by_cases k1:k=1/\S.inT=true
 ·obtain ⟨rfl,hT⟩:=k1
  have hZT:=HV.out.r.inT.trans hT
  rw [hZT] at d1
  obtain ⟨S1,e1,e2⟩:=HV.out.abort hT (.refl S)
  have HE:=Lib.hid e2
  have hb:=zCRo H1.out hZT e1 HY.out (by omega)
  unfold ptrV at hb
  have HC:=qh hb
  clear hb e1 e2 hZT hT
  go_wp2_with fail
  refine HC.out.mono ?_
  rintro e w2 ⟨rfl,x2,qs2,ts2,qy2,ty2,h1⟩
  have H2:=qh h1
  clear h1 HC
  go_wp2
  exact HPO.out _ _ _ _ _ _ _ _ _ _ H2.out (by omega) HE.out HY.out
 go_upto_block 0 with fail
 go_cut [5,6,7,8] from 12 to 94 (fun v5 v6 v7 v8 wx=>zShC w0 r bk S (g+20) qs qy ty Y v5 v6 v7 v8 wx)
 case first=>
  by_cases kk:k=1
  ·subst kk
   have hT:¬ S.inT=true:=fun e=>k1 ⟨rfl,e⟩
   rw [(HV.out.not hT).2] at d1
   go_wp2_with fail
   go_meet
   exact ⟨0,0,0,0,_,_,_,_,rfl,rfl,rfl,rfl,H1.out.up (by omega),.inr ⟨rfl,HV.out⟩,fun _=>rfl⟩
  clear d1 c2
  by_cases kk:k=2
  ·subst kk
   clear k0 k1 q0 q1 c0 c1
   go_wp2_with fail
   have HST:=Lib.hid HV.out.format
   have HK1:=qh ((Kept.refl (fun _=>False) w1).drew)
   have H2:=qh (H1.out.keep0 HK1.out)
   have HX2:=qh (HK1.out.heap HX1.out id)
   have HCE:=qh (show ∀ w':World,w'.heap[r]?=some (.cells #[ptrV bk,ptrV qs,ptrV qy] 63 (0,0))/\w'.heap[gb]?=some (.cells #[.int .i64 op,.int .i64 pg,.int .i64 wh] 46 (0,0))->w'.cell? ⟨r,0,none⟩=some (.pointer (some ⟨bk,0,none⟩))/\w'.cell? ⟨r,1,none⟩=some (.pointer (some ⟨qs,0,none⟩))/\w'.cell? ⟨gb,1,none⟩=some (.int .i64 pg)/\w'.cell? ⟨gb,2,none⟩=some (.int .i64 wh) from fun w' h=>⟨zcjX h.1 rfl,zcjX h.1 rfl,zcjX h.2 rfl,zcjX h.2 rfl⟩)
   have HD2:=qh (And.intro H2.out.hr HX2.out)
   refine znCh 11 (fun w'=>w'.heap[r]?=some (.cells #[ptrV bk,ptrV qs,ptrV qy] 63 (0,0))/\w'.heap[gb]?=some (.cells #[.int .i64 op,.int .i64 pg,.int .i64 wh] 46 (0,0))) (by kernel_rfl) HD2.out (fun hH=>?_)
   simp only [List.length_cons,List.length_nil,List.replicate]
   refine tK 0 ?_ (fun w' hw'=>?_) hH ?_
   rotate_left
   ·obtain ⟨c0,c1,c2,c3⟩:=HCE.out w' hw'
    go_simp<;>with_reducible rfl
   simp only [Act.put,oZa,oZb,oZc]
   refine tK 1 ?_ (fun w' hw'=>?_) hH ?_
   rotate_left
   ·obtain ⟨c0,c1,c2,c3⟩:=HCE.out w' hw'
    go_simp<;>with_reducible rfl
   simp only [Act.put,oZa,oZb,oZc]
   refine tK 2 ?_ (fun w' hw'=>?_) hH ?_
   rotate_left
   ·obtain ⟨c0,c1,c2,c3⟩:=HCE.out w' hw'
    go_simp<;>with_reducible rfl
   simp only [Act.put,oZa,oZb,oZc]
   refine tK 3 ?_ (fun w' hw'=>?_) hH ?_
   rotate_left
   ·obtain ⟨c0,c1,c2,c3⟩:=HCE.out w' hw'
    go_simp<;>with_reducible rfl
   simp only [Act.put,oZa,oZb,oZc]
   refine tK 5 ?_ (fun w' hw'=>?_) hH ?_
   rotate_left
   ·obtain ⟨c0,c1,c2,c3⟩:=HCE.out w' hw'
    go_simp<;>with_reducible rfl
   simp only [Act.put,oZa,oZb,oZc]
   refine tK 6 ?_ (fun w' hw'=>?_) hH ?_
   rotate_left
   ·obtain ⟨c0,c1,c2,c3⟩:=HCE.out w' hw'
    go_simp<;>with_reducible rfl
   simp only [Act.put,oZa,oZb,oZc]
   refine tK 7 ?_ (fun w' hw'=>?_) hH ?_
   rotate_left
   ·obtain ⟨c0,c1,c2,c3⟩:=HCE.out w' hw'
    go_simp<;>with_reducible rfl
   simp only [Act.put,oZa,oZb,oZc]
   refine tK 8 ?_ (fun w' hw'=>?_) hH ?_
   rotate_left
   ·obtain ⟨c0,c1,c2,c3⟩:=HCE.out w' hw'
    go_simp<;>with_reducible rfl
   simp only [Act.put,oZa,oZb,oZc]
   clear hH
   refine stepL 4 rfl (by kernel_rfl) (fun K hK=>?_)
   go_simp
   have hb:=zBXs H2.out.b.b (by omega)
   unfold ptrV at hb
   rw [H2.out.bk] at hb
   refine hb.mono ?_
   rintro e w3 ⟨rfl,x3,h1,h2⟩
   have H3:=qh (H2.out.book h1 h2)
   have HX3:=qh (h1.k.heap HX2.out (H2.out.b.b.notK ⟨_,_,HX2.out⟩ (by decide) (by decide) (by decide) (by decide) (by decide) (by decide) (by decide) (by decide)))
   have HD3:=qh (And.intro H3.out.hr HX3.out)
   clear hb h1 h2 H2 HX2 HD2
   go_simp
   refine hK.out _ _ (fun _=>HD3.out) (fun _=>?_)
   simp only [oZa,oZb,oZc]
   clear hK K
   refine stepL 9 rfl (by kernel_rfl) (fun K hK=>?_)
   go_simp
   have hb:=zbFT (H3.out.spf HV.out.r)
   unfold ptrV at hb
   refine hb.mono ?_
   rintro e w4 ⟨rfl,h1⟩
   have HX4:=qh (h1.kept HX3.out (H3.out.z.notT ⟨_,_,HX3.out⟩ (by decide) (by decide)))
   obtain ⟨ts4,h2⟩:=H3.out.space h1
   have H4:=qh h2
   have HD4:=qh (And.intro H4.out.hr HX4.out)
   clear hb h1 h2 H3 HX3 HD3
   go_simp
   refine hK.out _ _ (fun _=>HD4.out) (fun _=>?_)
   simp only [oZa,oZb,oZc]
   clear hK K
   refine stepL 10 rfl (by kernel_rfl) (fun K hK=>?_)
   go_simp
   refine hK.out _ _ (fun _=>HD4.out) (fun _=>?_)
   simp only [oZa,oZb,oZc]
   clear hK K
   refine stepL 11 rfl (by kernel_rfl) (fun K hK=>?_)
   go_simp
   refine hK.out _ _ (fun h=>absurd rfl h) (fun _=>?_)
   simp only [oZa,oZb,oZc]
   clear hK K
   refine doneL (by kernel_rfl) ?_ _
   go_wp2_with fail
   go_meet
   exact ⟨_,_,_,_,_,_,_,_,rfl,rfl,rfl,rfl,H4.out.up (by omega),HST.out,fun _=>rfl⟩
  by_cases kk:3<=k/\k<=6
  ·have HST:=Lib.hid HV.out.take
   have hb:=zSDl H1.out.b.b (by omega)
   unfold zo0G at hb
   unfold ptrV at hb
   rw [H1.out.bk] at hb
   have HC:=qh hb
   clear hb k1
   rcases (show k=3\/k=4\/k=5\/k=6 by omega) with rfl | rfl | rfl | rfl
   all_goals
    clear kk k0 q0 q1
    go_wp2_with fail
    refine HC.out.mono ?_
    rintro e w2 ⟨rfl,x2,h1,h2⟩
    have H2:=qh (H1.out.book h1 h2)
    clear h1 h2 c0 c1
    obtain ⟨c0,c1,c2⟩:=H2.out.cells
    have hb:=z36R (H2.out.spf HV.out.r)
    unfold ptrV at hb
    go_wp2_with fail
    refine hb.mono ?_
    rintro e w3 ⟨rfl,h1⟩
    obtain ⟨ts3,h2⟩:=H2.out.space h1
    have H3:=qh h2
    clear hb h1 h2 c0 c1 c2
    go_wp2_with fail
    go_meet
    exact ⟨_,_,_,_,_,_,_,_,rfl,rfl,rfl,rfl,H3.out.up (by omega),HST.out.1,HST.out.2⟩
  by_cases kk2:k=7\/k=8
  ·clear k1 c0 c1
   rcases kk2 with rfl | rfl
   all_goals
    clear kk k0 q0 q1
    go_wp2_with fail
    have HST:=qh (HV.out.give pg)
    have HK1:=qh ((Kept.refl (fun _=>False) w1).drew)
    have H2:=qh (H1.out.keep0 HK1.out)
    have HX2:=qh (HK1.out.heap HX1.out id)
    have HCE:=qh (show ∀ w':World,w'.heap[r]?=some (.cells #[ptrV bk,ptrV qs,ptrV qy] 63 (0,0))/\w'.heap[gb]?=some (.cells #[.int .i64 op,.int .i64 pg,.int .i64 wh] 46 (0,0))->w'.cell? ⟨r,0,none⟩=some (.pointer (some ⟨bk,0,none⟩))/\w'.cell? ⟨r,1,none⟩=some (.pointer (some ⟨qs,0,none⟩))/\w'.cell? ⟨gb,1,none⟩=some (.int .i64 pg)/\w'.cell? ⟨gb,2,none⟩=some (.int .i64 wh) from fun w' h=>⟨zcjX h.1 rfl,zcjX h.1 rfl,zcjX h.2 rfl,zcjX h.2 rfl⟩)
    have HD2:=qh (And.intro H2.out.hr HX2.out)
    refine znCh 15 (fun w'=>w'.heap[r]?=some (.cells #[ptrV bk,ptrV qs,ptrV qy] 63 (0,0))/\w'.heap[gb]?=some (.cells #[.int .i64 op,.int .i64 pg,.int .i64 wh] 46 (0,0))) (by kernel_rfl) HD2.out (fun hH=>?_)
    simp only [List.length_cons,List.length_nil,List.replicate]
    refine tK 0 ?_ (fun w' hw'=>?_) hH ?_
    rotate_left
    ·obtain ⟨c0,c1,c2,c3⟩:=HCE.out w' hw'
     go_simp<;>with_reducible rfl
    simp only [Act.put,oZa,oZb,oZc]
    refine tK 1 ?_ (fun w' hw'=>?_) hH ?_
    rotate_left
    ·obtain ⟨c0,c1,c2,c3⟩:=HCE.out w' hw'
     go_simp<;>with_reducible rfl
    simp only [Act.put,oZa,oZb,oZc]
    refine tK 2 ?_ (fun w' hw'=>?_) hH ?_
    rotate_left
    ·obtain ⟨c0,c1,c2,c3⟩:=HCE.out w' hw'
     go_simp<;>with_reducible rfl
    simp only [Act.put,oZa,oZb,oZc]
    refine tK 3 ?_ (fun w' hw'=>?_) hH ?_
    rotate_left
    ·obtain ⟨c0,c1,c2,c3⟩:=HCE.out w' hw'
     go_simp<;>with_reducible rfl
    simp only [Act.put,oZa,oZb,oZc]
    refine tK 4 ?_ (fun w' hw'=>?_) hH ?_
    rotate_left
    ·obtain ⟨c0,c1,c2,c3⟩:=HCE.out w' hw'
     go_simp<;>with_reducible rfl
    simp only [Act.put,oZa,oZb,oZc]
    refine tK 5 ?_ (fun w' hw'=>?_) hH ?_
    rotate_left
    ·obtain ⟨c0,c1,c2,c3⟩:=HCE.out w' hw'
     go_simp<;>with_reducible rfl
    simp only [Act.put,oZa,oZb,oZc]
    refine tK 7 ?_ (fun w' hw'=>?_) hH ?_
    rotate_left
    ·obtain ⟨c0,c1,c2,c3⟩:=HCE.out w' hw'
     go_simp<;>with_reducible rfl
    simp only [Act.put,oZa,oZb,oZc]
    refine tK 8 ?_ (fun w' hw'=>?_) hH ?_
    rotate_left
    ·obtain ⟨c0,c1,c2,c3⟩:=HCE.out w' hw'
     go_simp<;>with_reducible rfl
    simp only [Act.put,oZa,oZb,oZc]
    refine tK 9 ?_ (fun w' hw'=>?_) hH ?_
    rotate_left
    ·obtain ⟨c0,c1,c2,c3⟩:=HCE.out w' hw'
     go_simp<;>with_reducible rfl
    simp only [Act.put,oZa,oZb,oZc]
    refine tK 10 ?_ (fun w' hw'=>?_) hH ?_
    rotate_left
    ·obtain ⟨c0,c1,c2,c3⟩:=HCE.out w' hw'
     go_simp<;>with_reducible rfl
    simp only [Act.put,oZa,oZb,oZc]
    refine tK 11 ?_ (fun w' hw'=>?_) hH ?_
    rotate_left
    ·obtain ⟨c0,c1,c2,c3⟩:=HCE.out w' hw'
     go_simp<;>with_reducible rfl
    simp only [Act.put,oZa,oZb,oZc]
    refine tK 12 ?_ (fun w' hw'=>?_) hH ?_
    rotate_left
    ·obtain ⟨c0,c1,c2,c3⟩:=HCE.out w' hw'
     go_simp<;>with_reducible rfl
    simp only [Act.put,oZa,oZb,oZc]
    clear hH
    refine stepL 6 rfl (by kernel_rfl) (fun K hK=>?_)
    go_simp
    have hb:=zCzr H2.out.b.b (by omega) pg
    unfold ptrV at hb
    rw [H2.out.bk] at hb
    refine hb.mono ?_
    rintro e w3 ⟨rfl,x3,h1,h2⟩
    have H3:=qh (H2.out.book h1 h2)
    have HX3:=qh (h1.k.heap HX2.out (H2.out.b.b.notK ⟨_,_,HX2.out⟩ (by decide) (by decide) (by decide) (by decide) (by decide) (by decide) (by decide) (by decide)))
    have HD3:=qh (And.intro H3.out.hr HX3.out)
    clear hb h1 h2 H2 HX2 HD2
    go_simp
    refine hK.out _ _ (fun _=>HD3.out) (fun _=>?_)
    simp only [oZa,oZb,oZc]
    clear hK K
    refine stepL 13 rfl (by kernel_rfl) (fun K hK=>?_)
    go_simp
    have hb:=zbWI (H3.out.spf HV.out.r) pg
    unfold ptrV at hb
    refine hb.mono ?_
    rintro e w4 ⟨rfl,h1⟩
    have HX4:=qh (h1.kept HX3.out (H3.out.z.notT ⟨_,_,HX3.out⟩ (by decide) (by decide)))
    obtain ⟨ts4,h2⟩:=H3.out.space h1
    have H4:=qh h2
    have HD4:=qh (And.intro H4.out.hr HX4.out)
    clear hb h1 h2 H3 HX3 HD3
    go_simp
    refine hK.out _ _ (fun _=>HD4.out) (fun _=>?_)
    simp only [oZa,oZb,oZc]
    clear hK K
    refine stepL 14 rfl (by kernel_rfl) (fun K hK=>?_)
    go_simp
    refine hK.out _ _ (fun _=>HD4.out) (fun _=>?_)
    simp only [oZa,oZb,oZc]
    clear hK K
    refine stepL 15 rfl (by kernel_rfl) (fun K hK=>?_)
    go_simp
    refine hK.out _ _ (fun h=>absurd rfl h) (fun _=>?_)
    simp only [oZa,oZb,oZc]
    clear hK K
    refine doneL (by kernel_rfl) ?_ _
    go_wp2_with fail
    go_meet
    exact ⟨_,_,_,_,_,_,_,_,rfl,rfl,rfl,rfl,H4.out.up (by omega),HST.out,fun _=>rfl⟩
  ·have kk3:k=9\/k=10:=by omega
   clear k1 c0 c1
   rcases kk3 with rfl | rfl
   all_goals
    clear kk k0 q0 q1
    go_wp2_with fail
    have HST:=qh (HV.out.setRoot wh pg)
    have HK1:=qh ((Kept.refl (fun _=>False) w1).drew)
    have H2:=qh (H1.out.keep0 HK1.out)
    have HX2:=qh (HK1.out.heap HX1.out id)
    have HCE:=qh (show ∀ w':World,w'.heap[r]?=some (.cells #[ptrV bk,ptrV qs,ptrV qy] 63 (0,0))/\w'.heap[gb]?=some (.cells #[.int .i64 op,.int .i64 pg,.int .i64 wh] 46 (0,0))->w'.cell? ⟨r,0,none⟩=some (.pointer (some ⟨bk,0,none⟩))/\w'.cell? ⟨r,1,none⟩=some (.pointer (some ⟨qs,0,none⟩))/\w'.cell? ⟨gb,1,none⟩=some (.int .i64 pg)/\w'.cell? ⟨gb,2,none⟩=some (.int .i64 wh) from fun w' h=>⟨zcjX h.1 rfl,zcjX h.1 rfl,zcjX h.2 rfl,zcjX h.2 rfl⟩)
    have HD2:=qh (And.intro H2.out.hr HX2.out)
    refine znCh 19 (fun w'=>w'.heap[r]?=some (.cells #[ptrV bk,ptrV qs,ptrV qy] 63 (0,0))/\w'.heap[gb]?=some (.cells #[.int .i64 op,.int .i64 pg,.int .i64 wh] 46 (0,0))) (by kernel_rfl) HD2.out (fun hH=>?_)
    simp only [List.length_cons,List.length_nil,List.replicate]
    refine tK 0 ?_ (fun w' hw'=>?_) hH ?_
    rotate_left
    ·obtain ⟨c0,c1,c2,c3⟩:=HCE.out w' hw'
     go_simp<;>with_reducible rfl
    simp only [Act.put,oZa,oZb,oZc]
    refine tK 1 ?_ (fun w' hw'=>?_) hH ?_
    rotate_left
    ·obtain ⟨c0,c1,c2,c3⟩:=HCE.out w' hw'
     go_simp<;>with_reducible rfl
    simp only [Act.put,oZa,oZb,oZc]
    refine tK 2 ?_ (fun w' hw'=>?_) hH ?_
    rotate_left
    ·obtain ⟨c0,c1,c2,c3⟩:=HCE.out w' hw'
     go_simp<;>with_reducible rfl
    simp only [Act.put,oZa,oZb,oZc]
    refine tK 3 ?_ (fun w' hw'=>?_) hH ?_
    rotate_left
    ·obtain ⟨c0,c1,c2,c3⟩:=HCE.out w' hw'
     go_simp<;>with_reducible rfl
    simp only [Act.put,oZa,oZb,oZc]
    refine tK 4 ?_ (fun w' hw'=>?_) hH ?_
    rotate_left
    ·obtain ⟨c0,c1,c2,c3⟩:=HCE.out w' hw'
     go_simp<;>with_reducible rfl
    simp only [Act.put,oZa,oZb,oZc]
    refine tK 5 ?_ (fun w' hw'=>?_) hH ?_
    rotate_left
    ·obtain ⟨c0,c1,c2,c3⟩:=HCE.out w' hw'
     go_simp<;>with_reducible rfl
    simp only [Act.put,oZa,oZb,oZc]
    refine tK 6 ?_ (fun w' hw'=>?_) hH ?_
    rotate_left
    ·obtain ⟨c0,c1,c2,c3⟩:=HCE.out w' hw'
     go_simp<;>with_reducible rfl
    simp only [Act.put,oZa,oZb,oZc]
    refine tK 7 ?_ (fun w' hw'=>?_) hH ?_
    rotate_left
    ·obtain ⟨c0,c1,c2,c3⟩:=HCE.out w' hw'
     go_simp<;>with_reducible rfl
    simp only [Act.put,oZa,oZb,oZc]
    refine tK 9 ?_ (fun w' hw'=>?_) hH ?_
    rotate_left
    ·obtain ⟨c0,c1,c2,c3⟩:=HCE.out w' hw'
     go_simp<;>with_reducible rfl
    simp only [Act.put,oZa,oZb,oZc]
    refine tK 10 ?_ (fun w' hw'=>?_) hH ?_
    rotate_left
    ·obtain ⟨c0,c1,c2,c3⟩:=HCE.out w' hw'
     go_simp<;>with_reducible rfl
    simp only [Act.put,oZa,oZb,oZc]
    refine tK 11 ?_ (fun w' hw'=>?_) hH ?_
    rotate_left
    ·obtain ⟨c0,c1,c2,c3⟩:=HCE.out w' hw'
     go_simp<;>with_reducible rfl
    simp only [Act.put,oZa,oZb,oZc]
    refine tK 12 ?_ (fun w' hw'=>?_) hH ?_
    rotate_left
    ·obtain ⟨c0,c1,c2,c3⟩:=HCE.out w' hw'
     go_simp<;>with_reducible rfl
    simp only [Act.put,oZa,oZb,oZc]
    refine tK 13 ?_ (fun w' hw'=>?_) hH ?_
    rotate_left
    ·obtain ⟨c0,c1,c2,c3⟩:=HCE.out w' hw'
     go_simp<;>with_reducible rfl
    simp only [Act.put,oZa,oZb,oZc]
    refine tK 14 ?_ (fun w' hw'=>?_) hH ?_
    rotate_left
    ·obtain ⟨c0,c1,c2,c3⟩:=HCE.out w' hw'
     go_simp<;>with_reducible rfl
    simp only [Act.put,oZa,oZb,oZc]
    refine tK 15 ?_ (fun w' hw'=>?_) hH ?_
    rotate_left
    ·obtain ⟨c0,c1,c2,c3⟩:=HCE.out w' hw'
     go_simp<;>with_reducible rfl
    simp only [Act.put,oZa,oZb,oZc]
    refine tK 16 ?_ (fun w' hw'=>?_) hH ?_
    rotate_left
    ·obtain ⟨c0,c1,c2,c3⟩:=HCE.out w' hw'
     go_simp<;>with_reducible rfl
    simp only [Act.put,oZa,oZb,oZc]
    clear hH
    refine stepL 8 rfl (by kernel_rfl) (fun K hK=>?_)
    go_simp
    have hb:=zxVX H2.out.b.b (by omega) wh pg
    unfold ptrV at hb
    rw [H2.out.bk] at hb
    refine hb.mono ?_
    rintro e w3 ⟨rfl,x3,h1,h2⟩
    have H3:=qh (H2.out.book h1 h2)
    have HX3:=qh (h1.k.heap HX2.out (H2.out.b.b.notK ⟨_,_,HX2.out⟩ (by decide) (by decide) (by decide) (by decide) (by decide) (by decide) (by decide) (by decide)))
    have HD3:=qh (And.intro H3.out.hr HX3.out)
    clear hb h1 h2 H2 HX2 HD2
    go_simp
    refine hK.out _ _ (fun _=>HD3.out) (fun _=>?_)
    simp only [oZa,oZb,oZc]
    clear hK K
    refine stepL 17 rfl (by kernel_rfl) (fun K hK=>?_)
    go_simp
    have hb:=zsqC (H3.out.spf HV.out.r) wh pg
    unfold ptrV at hb
    refine hb.mono ?_
    rintro e w4 ⟨rfl,h1⟩
    have HX4:=qh (h1.kept HX3.out (H3.out.z.notT ⟨_,_,HX3.out⟩ (by decide) (by decide)))
    obtain ⟨ts4,h2⟩:=H3.out.space h1
    have H4:=qh h2
    have HD4:=qh (And.intro H4.out.hr HX4.out)
    clear hb h1 h2 H3 HX3 HD3
    go_simp
    refine hK.out _ _ (fun _=>HD4.out) (fun _=>?_)
    simp only [oZa,oZb,oZc]
    clear hK K
    refine stepL 18 rfl (by kernel_rfl) (fun K hK=>?_)
    go_simp
    refine hK.out _ _ (fun _=>HD4.out) (fun _=>?_)
    simp only [oZa,oZb,oZc]
    clear hK K
    refine stepL 19 rfl (by kernel_rfl) (fun K hK=>?_)
    go_simp
    refine hK.out _ _ (fun h=>absurd rfl h) (fun _=>?_)
    simp only [oZa,oZb,oZc]
    clear hK K
    refine doneL (by kernel_rfl) ?_ _
    go_wp2_with fail
    go_meet
    exact ⟨_,_,_,_,_,_,_,_,rfl,rfl,rfl,rfl,H4.out.up (by omega),HST.out,fun _=>rfl⟩
 case rest=>
  obtain ⟨e,f,a,c,x2,S2,ts2,Z2,rfl,rfl,rfl,rfl,h2,hst,hac⟩:=hcut
  clear H1 HX1 c0 c1 c2 d1 k0 k1 q0 q1
  rcases hst with ⟨hT,hp,hZT,rfl,rfl⟩ | ⟨rfl,hlv⟩
  ·obtain ⟨S1,e1,e2⟩:=HV.out.abort hT hp
   have HE:=Lib.hid e2
   have hb:=zCRo h2 hZT e1 HY.out (by omega)
   unfold ptrV at hb
   have HC:=qh hb
   clear hb e1 e2 hZT hT hp h2 hac
   go_wp2_with fail
   refine HC.out.mono ?_
   rintro e w3 ⟨rfl,x3,qs3,ts3,qy3,ty3,h1⟩
   have H3:=qh h1
   clear h1 HC
   go_wp2
   exact HPO.out _ _ _ _ _ _ _ _ _ _ H3.out (by omega) HE.out HY.out
  ·obtain rfl:=hac rfl
   have H2:=qh h2
   have HLV:=qh hlv
   clear h2 hlv hac
   by_cases he:e=5
   ·subst he
    go_wp2
    exact HPO.out _ _ _ _ _ _ _ _ _ _ H2.out (by omega) HLV.out HY.out
   ·go_wp2
    exact HPO.out _ _ _ _ _ _ _ _ _ _ H2.out (by omega) HLV.out HY.out
end
section
variable {w0 w w':World} {x x':BAdr} {S S' S1:BkA} {g g' B q r bk qs qy q':Nat} {tv ts ty t':Value} {Z Z' Y Y':SpM}
def z6Qv (w0:World) (r bk:Nat) (S:BkA) (g qs:Nat) (ts:Value) (Z:SpM) (qy:Nat) (ty:Value) (Y:SpM) (e:Ending) (w':World):Prop:=e=.returned (.bool true)/\∃ x',RgM w0 w' r bk x' S g qs ts Z qy ty Y
set_option maxRecDepth 100000 in
set_option maxHeartbeats 3200000 in
theorem zzAG (h:RgM w0 w r bk x S g qs ts Z qy ty Y) (hv:Rel S Z) (op pg wh:Int):Calls Tryz.prog 28 #[ptrV r,.agg #[.int .i64 op,.int .i64 pg,.int .i64 wh]] w (z6Qv w0 r bk S g qs ts Z qy ty Y):=by
 obtain ⟨POST,hPOST⟩:∃ POST,POST=z6Qv w0 r bk S g qs ts Z qy ty Y:=⟨_,rfl⟩
 rw [<- hPOST]
 have HPO:=qh (show ∀ w' x',RgM w0 w' r bk x' S g qs ts Z qy ty Y->POST (.returned (.bool true)) w' from fun w' x' h1=>by rw [hPOST];exact ⟨rfl,_,h1⟩)
 have HZ:=qh h
 obtain ⟨tb,tn,e1⟩:∃ b n,S.taken pg=(b,n):=⟨_,_,rfl⟩
 obtain ⟨rv,rn,e2⟩:∃ b n,S.root wh=(b,n):=⟨_,_,rfl⟩
 obtain ⟨fv,fn,e3⟩:∃ b n,S.free=(b,n):=⟨_,_,rfl⟩
 have HT:=Lib.hid e1
 have HT':=qh (show Z.taken pg=(tb,tn) from (hv.taken pg).symm.trans e1)
 have HR:=Lib.hid e2
 have HR':=qh (show Z.root wh=(rv,rn) from (hv.root wh).symm.trans e2)
 have HF:=Lib.hid e3
 have HF':=qh (show Z.free=(fv,fn) from hv.free.symm.trans e3)
 have HV:=qh hv
 unfold ptrV
 clear h hPOST hv e1 e2 e3
 go_enter Tryz.func28,Tryz.ntmps28
 go_wp2_with (refine znBH rfl 46 _ rfl (.agg #[.int .i64 op,.int .i64 pg,.int .i64 wh]) rfl ?_)
 intro gb w11 l1 m1 hb1 hk1
 have HX11:=qh (show w11.heap[gb]?=some (.cells #[.int .i64 op,.int .i64 pg,.int .i64 wh] 46 (0,0)) from hb1)
 have H11:=qh (HZ.out.keep0 hk1)
 have HCE:=qh (show ∀ w':World,w'.heap[r]?=some (.cells #[ptrV bk,ptrV qs,ptrV qy] 63 (0,0))/\w'.heap[gb]?=some (.cells #[.int .i64 op,.int .i64 pg,.int .i64 wh] 46 (0,0))->w'.cell? ⟨r,0,none⟩=some (.pointer (some ⟨bk,0,none⟩))/\w'.cell? ⟨r,1,none⟩=some (.pointer (some ⟨qs,0,none⟩))/\w'.cell? ⟨gb,1,none⟩=some (.int .i64 pg)/\w'.cell? ⟨gb,2,none⟩=some (.int .i64 wh) from fun w' h=>⟨zcjX h.1 rfl,zcjX h.1 rfl,zcjX h.2 rfl,zcjX h.2 rfl⟩)
 clear hb1 hk1 l1 m1 HZ
 go_wp2_with fail
 have HK1:=qh ((Kept.refl (fun _=>False) w11).drew)
 have H2:=qh (H11.out.keep0 HK1.out)
 have HX2:=qh (HK1.out.heap HX11.out id)
 have HD2:=qh (And.intro H2.out.hr HX2.out)
 clear HK1 H11 HX11
 refine znCh 11 (fun w'=>w'.heap[r]?=some (.cells #[ptrV bk,ptrV qs,ptrV qy] 63 (0,0))/\w'.heap[gb]?=some (.cells #[.int .i64 op,.int .i64 pg,.int .i64 wh] 46 (0,0))) (by kernel_rfl) HD2.out (fun hH=>?_)
 simp only [List.length_cons,List.length_nil,List.replicate]
 refine tK 0 ?_ (fun w' hw'=>?_) hH ?_
 rotate_left
 ·obtain ⟨c0,c1,c2,c3⟩:=HCE.out w' hw'
  go_simp<;>with_reducible rfl
 simp only [Act.put,oZa,oZb,oZc]
 refine tK 1 ?_ (fun w' hw'=>?_) hH ?_
 rotate_left
 ·obtain ⟨c0,c1,c2,c3⟩:=HCE.out w' hw'
  go_simp<;>with_reducible rfl
 simp only [Act.put,oZa,oZb,oZc]
 refine tK 2 ?_ (fun w' hw'=>?_) hH ?_
 rotate_left
 ·obtain ⟨c0,c1,c2,c3⟩:=HCE.out w' hw'
  go_simp<;>with_reducible rfl
 simp only [Act.put,oZa,oZb,oZc]
 refine tK 3 ?_ (fun w' hw'=>?_) hH ?_
 rotate_left
 ·obtain ⟨c0,c1,c2,c3⟩:=HCE.out w' hw'
  go_simp<;>with_reducible rfl
 simp only [Act.put,oZa,oZb,oZc]
 refine tK 4 ?_ (fun w' hw'=>?_) hH ?_
 rotate_left
 ·obtain ⟨c0,c1,c2,c3⟩:=HCE.out w' hw'
  go_simp<;>with_reducible rfl
 simp only [Act.put,oZa,oZb,oZc]
 refine tK 5 ?_ (fun w' hw'=>?_) hH ?_
 rotate_left
 ·obtain ⟨c0,c1,c2,c3⟩:=HCE.out w' hw'
  go_simp<;>with_reducible rfl
 simp only [Act.put,oZa,oZb,oZc]
 clear hH
 refine stepL 6 rfl (by kernel_rfl) (fun K hK=>?_)
 go_simp
 have hb:=z5xR H2.out.b.b pg
 unfold zvBu ptrV at hb
 rw [HT.out,H2.out.bk] at hb
 refine hb.mono ?_
 rintro e w12 ⟨rfl,x12,h1,h2⟩
 have H12:=qh (H2.out.book h1 h2)
 have HX12:=qh (h1.k.heap HX2.out (H2.out.b.b.notK ⟨_,_,HX2.out⟩ (by decide) (by decide) (by decide) (by decide) (by decide) (by decide) (by decide) (by decide)))
 clear hb h1 h2 H2 HX2 HD2
 have HD3:=qh (And.intro H12.out.hr HX12.out)
 go_simp
 refine hK.out _ _ (fun _=>HD3.out) (fun _=>?_)
 simp only [oZa,oZb,oZc]
 clear hK K
 refine tK 7 ?_ (fun w' hw'=>?_) HD3.out ?_
 rotate_left
 ·skip
  go_simp<;>with_reducible rfl
 simp only [Act.put,oZa,oZb,oZc]
 refine tK 8 ?_ (fun w' hw'=>?_) HD3.out ?_
 rotate_left
 ·skip
  go_simp<;>with_reducible rfl
 simp only [Act.put,oZa,oZb,oZc]
 refine tK 9 ?_ (fun w' hw'=>?_) HD3.out ?_
 rotate_left
 ·skip
  go_simp<;>with_reducible rfl
 simp only [Act.put,oZa,oZb,oZc]
 refine stepL 10 rfl (by kernel_rfl) (fun K hK=>?_)
 go_simp
 refine hK.out _ _ (fun _=>HD3.out) (fun _=>?_)
 simp only [oZa,oZb,oZc]
 clear hK K
 refine stepL 11 rfl (by kernel_rfl) (fun K hK=>?_)
 go_simp
 refine hK.out _ _ (fun h=>absurd rfl h) (fun _=>?_)
 simp only [oZa,oZb,oZc]
 clear hK K HD3
 refine doneL (by kernel_rfl) ?_ _
 go_wp2_with fail
 have HK1:=qh ((Kept.refl (fun _=>False) w12).drew)
 have H2:=qh (H12.out.keep0 HK1.out)
 have HX2:=qh (HK1.out.heap HX12.out id)
 have HD2:=qh (And.intro H2.out.hr HX2.out)
 clear HK1 H12 HX12
 refine znCh 11 (fun w'=>w'.heap[r]?=some (.cells #[ptrV bk,ptrV qs,ptrV qy] 63 (0,0))/\w'.heap[gb]?=some (.cells #[.int .i64 op,.int .i64 pg,.int .i64 wh] 46 (0,0))) (by kernel_rfl) HD2.out (fun hH=>?_)
 simp only [List.length_cons,List.length_nil,List.replicate]
 refine tK 0 ?_ (fun w' hw'=>?_) hH ?_
 rotate_left
 ·obtain ⟨c0,c1,c2,c3⟩:=HCE.out w' hw'
  go_simp<;>with_reducible rfl
 simp only [Act.put,oZa,oZb,oZc]
 refine tK 1 ?_ (fun w' hw'=>?_) hH ?_
 rotate_left
 ·obtain ⟨c0,c1,c2,c3⟩:=HCE.out w' hw'
  go_simp<;>with_reducible rfl
 simp only [Act.put,oZa,oZb,oZc]
 refine tK 2 ?_ (fun w' hw'=>?_) hH ?_
 rotate_left
 ·obtain ⟨c0,c1,c2,c3⟩:=HCE.out w' hw'
  go_simp<;>with_reducible rfl
 simp only [Act.put,oZa,oZb,oZc]
 refine tK 3 ?_ (fun w' hw'=>?_) hH ?_
 rotate_left
 ·obtain ⟨c0,c1,c2,c3⟩:=HCE.out w' hw'
  go_simp<;>with_reducible rfl
 simp only [Act.put,oZa,oZb,oZc]
 refine tK 4 ?_ (fun w' hw'=>?_) hH ?_
 rotate_left
 ·obtain ⟨c0,c1,c2,c3⟩:=HCE.out w' hw'
  go_simp<;>with_reducible rfl
 simp only [Act.put,oZa,oZb,oZc]
 refine tK 5 ?_ (fun w' hw'=>?_) hH ?_
 rotate_left
 ·obtain ⟨c0,c1,c2,c3⟩:=HCE.out w' hw'
  go_simp<;>with_reducible rfl
 simp only [Act.put,oZa,oZb,oZc]
 clear hH
 refine stepL 6 rfl (by kernel_rfl) (fun K hK=>?_)
 go_simp
 have hb:=z0aK (H2.out.spf HV.out) pg
 unfold ptrV at hb
 rw [HT'.out] at hb
 refine hb.mono ?_
 rintro e w13 ⟨rfl,e1⟩
 have H13:=H2
 have HX13:=HX2
 rw [e1] at H13 HX13
 clear hb e1 H2 HX2 HD2
 have HD3:=qh (And.intro H13.out.hr HX13.out)
 go_simp
 refine hK.out _ _ (fun _=>HD3.out) (fun _=>?_)
 simp only [oZa,oZb,oZc]
 clear hK K
 refine tK 7 ?_ (fun w' hw'=>?_) HD3.out ?_
 rotate_left
 ·skip
  go_simp<;>with_reducible rfl
 simp only [Act.put,oZa,oZb,oZc]
 refine tK 8 ?_ (fun w' hw'=>?_) HD3.out ?_
 rotate_left
 ·skip
  go_simp<;>with_reducible rfl
 simp only [Act.put,oZa,oZb,oZc]
 refine tK 9 ?_ (fun w' hw'=>?_) HD3.out ?_
 rotate_left
 ·skip
  go_simp<;>with_reducible rfl
 simp only [Act.put,oZa,oZb,oZc]
 refine stepL 10 rfl (by kernel_rfl) (fun K hK=>?_)
 go_simp
 refine hK.out _ _ (fun _=>HD3.out) (fun _=>?_)
 simp only [oZa,oZb,oZc]
 clear hK K
 refine stepL 11 rfl (by kernel_rfl) (fun K hK=>?_)
 go_simp
 refine hK.out _ _ (fun h=>absurd rfl h) (fun _=>?_)
 simp only [oZa,oZb,oZc]
 clear hK K HD3
 refine doneL (by kernel_rfl) ?_ _
 go_wp2_with fail
 have HK1:=qh ((Kept.refl (fun _=>False) w13).drew)
 have H2:=qh (H13.out.keep0 HK1.out)
 have HX2:=qh (HK1.out.heap HX13.out id)
 have HD2:=qh (And.intro H2.out.hr HX2.out)
 clear HK1 H13 HX13
 refine znCh 11 (fun w'=>w'.heap[r]?=some (.cells #[ptrV bk,ptrV qs,ptrV qy] 63 (0,0))/\w'.heap[gb]?=some (.cells #[.int .i64 op,.int .i64 pg,.int .i64 wh] 46 (0,0))) (by kernel_rfl) HD2.out (fun hH=>?_)
 simp only [List.length_cons,List.length_nil,List.replicate]
 refine tK 0 ?_ (fun w' hw'=>?_) hH ?_
 rotate_left
 ·obtain ⟨c0,c1,c2,c3⟩:=HCE.out w' hw'
  go_simp<;>with_reducible rfl
 simp only [Act.put,oZa,oZb,oZc]
 refine tK 1 ?_ (fun w' hw'=>?_) hH ?_
 rotate_left
 ·obtain ⟨c0,c1,c2,c3⟩:=HCE.out w' hw'
  go_simp<;>with_reducible rfl
 simp only [Act.put,oZa,oZb,oZc]
 refine tK 2 ?_ (fun w' hw'=>?_) hH ?_
 rotate_left
 ·obtain ⟨c0,c1,c2,c3⟩:=HCE.out w' hw'
  go_simp<;>with_reducible rfl
 simp only [Act.put,oZa,oZb,oZc]
 refine tK 3 ?_ (fun w' hw'=>?_) hH ?_
 rotate_left
 ·obtain ⟨c0,c1,c2,c3⟩:=HCE.out w' hw'
  go_simp<;>with_reducible rfl
 simp only [Act.put,oZa,oZb,oZc]
 refine tK 4 ?_ (fun w' hw'=>?_) hH ?_
 rotate_left
 ·obtain ⟨c0,c1,c2,c3⟩:=HCE.out w' hw'
  go_simp<;>with_reducible rfl
 simp only [Act.put,oZa,oZb,oZc]
 refine tK 5 ?_ (fun w' hw'=>?_) hH ?_
 rotate_left
 ·obtain ⟨c0,c1,c2,c3⟩:=HCE.out w' hw'
  go_simp<;>with_reducible rfl
 simp only [Act.put,oZa,oZb,oZc]
 clear hH
 refine stepL 6 rfl (by kernel_rfl) (fun K hK=>?_)
 go_simp
 have hb:=zGfd H2.out.b.b wh
 unfold zfnK ptrV at hb
 rw [HR.out,H2.out.bk] at hb
 refine hb.mono ?_
 rintro e w14 ⟨rfl,x14,h1,h2⟩
 have H14:=qh (H2.out.book h1 h2)
 have HX14:=qh (h1.k.heap HX2.out (H2.out.b.b.notK ⟨_,_,HX2.out⟩ (by decide) (by decide) (by decide) (by decide) (by decide) (by decide) (by decide) (by decide)))
 clear hb h1 h2 H2 HX2 HD2
 have HD3:=qh (And.intro H14.out.hr HX14.out)
 go_simp
 refine hK.out _ _ (fun _=>HD3.out) (fun _=>?_)
 simp only [oZa,oZb,oZc]
 clear hK K
 refine tK 7 ?_ (fun w' hw'=>?_) HD3.out ?_
 rotate_left
 ·skip
  go_simp<;>with_reducible rfl
 simp only [Act.put,oZa,oZb,oZc]
 refine tK 8 ?_ (fun w' hw'=>?_) HD3.out ?_
 rotate_left
 ·skip
  go_simp<;>with_reducible rfl
 simp only [Act.put,oZa,oZb,oZc]
 refine tK 9 ?_ (fun w' hw'=>?_) HD3.out ?_
 rotate_left
 ·skip
  go_simp<;>with_reducible rfl
 simp only [Act.put,oZa,oZb,oZc]
 refine stepL 10 rfl (by kernel_rfl) (fun K hK=>?_)
 go_simp
 refine hK.out _ _ (fun _=>HD3.out) (fun _=>?_)
 simp only [oZa,oZb,oZc]
 clear hK K
 refine stepL 11 rfl (by kernel_rfl) (fun K hK=>?_)
 go_simp
 refine hK.out _ _ (fun h=>absurd rfl h) (fun _=>?_)
 simp only [oZa,oZb,oZc]
 clear hK K HD3
 refine doneL (by kernel_rfl) ?_ _
 go_wp2_with fail
 have HK1:=qh ((Kept.refl (fun _=>False) w14).drew)
 have H2:=qh (H14.out.keep0 HK1.out)
 have HX2:=qh (HK1.out.heap HX14.out id)
 have HD2:=qh (And.intro H2.out.hr HX2.out)
 clear HK1 H14 HX14
 refine znCh 11 (fun w'=>w'.heap[r]?=some (.cells #[ptrV bk,ptrV qs,ptrV qy] 63 (0,0))/\w'.heap[gb]?=some (.cells #[.int .i64 op,.int .i64 pg,.int .i64 wh] 46 (0,0))) (by kernel_rfl) HD2.out (fun hH=>?_)
 simp only [List.length_cons,List.length_nil,List.replicate]
 refine tK 0 ?_ (fun w' hw'=>?_) hH ?_
 rotate_left
 ·obtain ⟨c0,c1,c2,c3⟩:=HCE.out w' hw'
  go_simp<;>with_reducible rfl
 simp only [Act.put,oZa,oZb,oZc]
 refine tK 1 ?_ (fun w' hw'=>?_) hH ?_
 rotate_left
 ·obtain ⟨c0,c1,c2,c3⟩:=HCE.out w' hw'
  go_simp<;>with_reducible rfl
 simp only [Act.put,oZa,oZb,oZc]
 refine tK 2 ?_ (fun w' hw'=>?_) hH ?_
 rotate_left
 ·obtain ⟨c0,c1,c2,c3⟩:=HCE.out w' hw'
  go_simp<;>with_reducible rfl
 simp only [Act.put,oZa,oZb,oZc]
 refine tK 3 ?_ (fun w' hw'=>?_) hH ?_
 rotate_left
 ·obtain ⟨c0,c1,c2,c3⟩:=HCE.out w' hw'
  go_simp<;>with_reducible rfl
 simp only [Act.put,oZa,oZb,oZc]
 refine tK 4 ?_ (fun w' hw'=>?_) hH ?_
 rotate_left
 ·obtain ⟨c0,c1,c2,c3⟩:=HCE.out w' hw'
  go_simp<;>with_reducible rfl
 simp only [Act.put,oZa,oZb,oZc]
 refine tK 5 ?_ (fun w' hw'=>?_) hH ?_
 rotate_left
 ·obtain ⟨c0,c1,c2,c3⟩:=HCE.out w' hw'
  go_simp<;>with_reducible rfl
 simp only [Act.put,oZa,oZb,oZc]
 clear hH
 refine stepL 6 rfl (by kernel_rfl) (fun K hK=>?_)
 go_simp
 have hb:=zp29 (H2.out.spf HV.out) wh
 unfold ptrV at hb
 rw [HR'.out] at hb
 refine hb.mono ?_
 rintro e w15 ⟨rfl,e1⟩
 have H15:=H2
 have HX15:=HX2
 rw [e1] at H15 HX15
 clear hb e1 H2 HX2 HD2
 have HD3:=qh (And.intro H15.out.hr HX15.out)
 go_simp
 refine hK.out _ _ (fun _=>HD3.out) (fun _=>?_)
 simp only [oZa,oZb,oZc]
 clear hK K
 refine tK 7 ?_ (fun w' hw'=>?_) HD3.out ?_
 rotate_left
 ·skip
  go_simp<;>with_reducible rfl
 simp only [Act.put,oZa,oZb,oZc]
 refine tK 8 ?_ (fun w' hw'=>?_) HD3.out ?_
 rotate_left
 ·skip
  go_simp<;>with_reducible rfl
 simp only [Act.put,oZa,oZb,oZc]
 refine tK 9 ?_ (fun w' hw'=>?_) HD3.out ?_
 rotate_left
 ·skip
  go_simp<;>with_reducible rfl
 simp only [Act.put,oZa,oZb,oZc]
 refine stepL 10 rfl (by kernel_rfl) (fun K hK=>?_)
 go_simp
 refine hK.out _ _ (fun _=>HD3.out) (fun _=>?_)
 simp only [oZa,oZb,oZc]
 clear hK K
 refine stepL 11 rfl (by kernel_rfl) (fun K hK=>?_)
 go_simp
 refine hK.out _ _ (fun h=>absurd rfl h) (fun _=>?_)
 simp only [oZa,oZb,oZc]
 clear hK K HD3
 refine doneL (by kernel_rfl) ?_ _
 obtain ⟨c0,c1,-⟩:=H15.out.cells
 go_wp2_with fail
 have hb:=znV8 H15.out.b.b
 unfold zpmK ptrV at hb
 rw [HF.out,H15.out.bk] at hb
 refine hb.mono ?_
 rintro e w16 ⟨rfl,x16,h1,h2⟩
 have H16:=qh (H15.out.book h1 h2)
 clear hb h1 h2 H15 c0 c1
 obtain ⟨c0,c1,-⟩:=H16.out.cells
 go_wp2_with fail
 have hb:=zRtr (H16.out.spf HV.out)
 unfold ptrV at hb
 rw [HF'.out] at hb
 refine hb.mono ?_
 rintro e w17 ⟨rfl,e1⟩
 have H17:=H16
 rw [e1] at H17
 clear hb e1 H16 c0 c1
 go_wp2
 exact HPO.out _ _ H17.out
end
theorem bSp (n:Int) (wz:World):(Instr.build 60 #[(0,.int .i64 n)]).run Tryz.prog wz=.ok (.agg (spC ⟨n,false,[],List.replicate 8 0⟩ (.slice none 0 0))) wz:=run_build wz _ _ _ (by kernel_rfl)
theorem bRg (a b c:Addr) (wz:World):(Instr.build 63 #[(0,.pointer (some a)),(1,.pointer (some b)),(2,.pointer (some c))]).run Tryz.prog wz=.ok (.agg #[.pointer (some a),.pointer (some b),.pointer (some c)]) wz:=run_build wz _ _ _ (by kernel_rfl)
theorem bDo2 (p q:Int) (wz:World):(Instr.build 46 #[(1,.int .i64 p),(2,.int .i64 q)]).run Tryz.prog wz=.ok (.agg #[.int .i64 0,.int .i64 p,.int .i64 q]) wz:=run_build wz _ _ _ (by kernel_rfl)
section
variable {w0 w w':World} {x x':BAdr} {S S':BkA} {g g':Nat}
set_option maxRecDepth 100000 in
theorem z532 (w:World) (blocks:Int):Calls Tryz.prog 26 #[.int .i64 blocks] w fun e w'=>∃ r x S qs ts Z qy ty Y,e=.returned (.tuple #[ptrV r,.bool true])/\RgM w w' r x.bk x S 1 qs ts Z qy ty Y/\LV S Z Y/\Y.tk.length<=1000000:=by
 have hB1:=bSp
 have hB2:=bRg
 obtain ⟨q0,q1⟩:=z1m9 (x:=blocks) (n:=200+1) (by decide)
 go_enter Tryz.func26,Tryz.ntmps26
 go_wp2_with fail
 refine (zWg0 w blocks 200 (by decide) (by decide)).mono ?_
 rintro e w1 ⟨x,rfl,hb⟩
 obtain ⟨n,hn⟩:∃ n,n=24+pickM blocks (200+1):=⟨_,rfl⟩
 rw [<- hn] at hb
 have n0:24<=n:=by omega
 have n1:n<=65536:=by omega
 have H1:=qh hb
 clear hb hn q0 q1
 unfold ptrV
 go_wp2_with fail
 have hp:=zQfR H1.out.b
 unfold ptrV at hp
 obtain ⟨m,hm⟩:∃ m,m=(zT5q n).pages:=⟨_,rfl⟩
 rw [<- hm] at hp
 have HM:=qh hm
 clear hm
 refine hp.mono ?_
 rintro e wx ⟨rfl,rfl⟩
 clear hp
 go_wp2_with (refine znBH rfl 60 _ rfl (.agg (spC ⟨m,false,[],List.replicate 8 0⟩ (.slice none 0 0))) rfl ?_)
 intro qs w2 l2 m2 hb2 hk2
 have HS2:=qh (show SpW w2 w.heap.size qs (.slice none 0 0) ⟨m,false,[],List.replicate 8 0⟩ from ⟨hb2,OwnT.nil _ _,Nat.le_trans H1.out.k.size l2,rfl⟩)
 have H2:=qh (H1.out.keep0 hk2)
 clear hb2 hk2 l2 m2 H1
 go_wp2_with fail
 have hc:=zdHN HS2.out (by show 0<=1000000;decide)
 unfold ptrV at hc
 refine hc.mono ?_
 rintro e w3 ⟨qy,ty,rfl,hs3,hk3⟩
 have HY3:=qh hs3
 have HS3:=qh (HS2.out.keep0 hk3)
 have H3:=qh (H2.out.keep0 hk3)
 clear hc hs3 hk3
 go_wp2_with (refine znBH rfl 63 _ rfl (.agg #[ptrV x.bk,ptrV qs,ptrV qy]) rfl ?_)
 intro r w4 l4 m4 hb4 hk4
 have HR:=qh (show RgM w w4 r x.bk x (zT5q n) 1 qs (.slice none 0 0) ⟨m,false,[],List.replicate 8 0⟩ qy ty ⟨m,false,[],List.replicate 8 0⟩ from ⟨hb4,Nat.le_trans H3.out.k.size l4,H3.out.keep0 hk4,rfl,HS3.out.keep0 hk4,(HY3.out.low H2.out.k.size).keep0 hk4,fun u hu hy=>by
  have:=(HS2.out.lt hu).2
  have:=(HY3.out.lt hy).1
  omega⟩)
 clear hb4 hk4 l4 m4 HS2 HS3 HY3 H2 H3
 go_wp2
 go_ret2
 exact ⟨r,x,zT5q n,qs,_,_,qy,ty,_,rfl,HR.out,by rw [HM.out];exact LV.fresh n0 n1,by show 0<=1000000;decide⟩
set_option maxRecDepth 100000 in
set_option maxHeartbeats 3200000 in
theorem zyxf (w:World) (blocks:Int) (A:Option Addr) (c:Nat) (l:List DoM) (hl:RdDo w A l) (_hlm:l.length<=maxLen) (hlc:l.length<=c):Calls Tryz.prog 6 #[.int .i64 blocks,.slice A l.length c] w fun e w'=>e=.returned (.bool true)/\Kept (fun _=>False) w w':=by
 have HL:=qh hl
 obtain ⟨n,hn⟩:∃ n,n=l.length:=⟨_,rfl⟩
 have HN:=qh hn
 rw [<- hn] at _hlm hlc ⊢
 have e63:maxLen=9223372036854775807:=rfl
 have hB3:=bDo2
 clear hn hl
 go_enter Tryz.func6,Tryz.ntmps6
 go_upto_if 11 with (fail)
 go_cut [1] from 12 to 13 (fun v wx=>Cut80 A l v/\w=wx)
 case first=>
  by_cases h80:80 < (n:Int)
  ·have hA:∃ b off,A=some ⟨b,off,none⟩:=by
    obtain ⟨b,off,h1,-⟩:=HL.out (by rintro rfl;have:=HN.out;simp at this;omega)
    exact ⟨b,off,h1⟩
   obtain ⟨b,off,rfl⟩:=hA
   have h8c:(80:Int)<=(c:Int):=by omega
   have HQ:=qh (show (l.take 80).length=80 from by rw [List.length_take,<- HN.out];omega)
   go_wp2_with fail
   go_meet
   exact ⟨⟨c,by rw [HQ.out]⟩,rfl⟩
  ·have HQ:=qh (show (l.take 80).length=n from by rw [List.length_take,<- HN.out];omega)
   go_wp2_with fail
   go_meet
   exact ⟨⟨c,by rw [HQ.out]⟩,rfl⟩
 case rest=>
  obtain ⟨⟨c1,rfl⟩,rfl⟩:=hcut
  have HL2:=qh (HL.out.sub 80)
  obtain ⟨l2,hl2⟩:∃ l2,l2=l.take 80:=⟨_,rfl⟩
  obtain ⟨m,hm⟩:∃ m,m=l2.length:=⟨_,rfl⟩
  have m80:m<=80:=by rw [hm,hl2,List.length_take];omega
  rw [<- hl2] at HL2
  rw [<- hl2,<- hm]
  have HM:=qh hm
  clear hl2 hm _hlm hlc e63 HL HN
  go_wp2_with fail
  refine (z532 w blocks).mono ?_
  rintro e w2 ⟨r,x0,S0,qs0,ts0,Z0,qy0,ty0,Y0,rfl,h1,h2,h3⟩
  have HR:=qh h1
  have HV:=qh h2
  have HY:=qh h3
  obtain ⟨bk,hbk⟩:∃ bk,bk=x0.bk:=⟨_,rfl⟩
  rw [<- hbk] at HR
  clear h1 h2 h3 hbk
  unfold ptrV
  go_wp2_with fail
  go_loopw [7] (fun i wr=>∃ (j:Nat) (x:BAdr) (S:BkA) (g qs:Nat) (ts:Value) (Z:SpM) (qy:Nat) (ty:Value) (Y:SpM),i=.int .i64 j/\j<=m/\RgM w wr r bk x S g qs ts Z qy ty Y/\LV S Z Y/\Y.tk.length<=1000000/\g<=1+21*j) (fun i _=>m - (intOf i).toNat)
  case atStart=>exact ⟨0,_,_,_,_,_,_,_,_,_,rfl,Nat.zero_le _,HR.out,HV.out,HY.out,Nat.le_refl _⟩
  case round=>
   clear HR HV HY
   obtain ⟨j,x,S,g,qs,ts,Z,qy,ty,Y,rfl,hj,h1,h2,h3,hg⟩:=hrel
   have HR:=qh h1
   have HV:=qh h2
   have HY:=qh h3
   clear h1 h2 h3
   by_cases hkm:j < m
   ·have i1:(j:Int) < m:=by omega
    obtain ⟨y,hy⟩:∃ y,l2[j]?=some y:=⟨_,List.getElem?_eq_getElem (by rw [<- HM.out];exact hkm)⟩
    obtain ⟨bA,oA,rfl,hrow⟩:=HL2.out (by rintro rfl;simp at hy)
    have HDW:=qh (hrow j y hy)
    have HD:=qh (show ∀ w',Kept (fun _=>False) w w'->w'.cell? ⟨bA,oA+j*3,none⟩=some (.int .i64 y.op)/\w'.cell? ⟨bA,oA+j*3+1,none⟩=some (.int .i64 y.page)/\w'.cell? ⟨bA,oA+j*3+2,none⟩=some (.int .i64 y.which) from fun w' hk=>by
     have tr:∀ o v,w.cell? ⟨bA,o,none⟩=some v->w'.cell? ⟨bA,o,none⟩=some v:=fun o v hv=>(World.cell?_of_block (hk.block bA (block_lt_of_cell hv) id)).trans hv
     exact ⟨tr _ _ (HDW.out 0 (by decide)),tr _ _ (HDW.out 1 (by decide)),tr _ _ (HDW.out 2 (by decide))⟩)
    obtain ⟨d0,d1,d2⟩:=HD.out wr HR.out.b.k
    clear hrow hy HDW
    go_wp2_with fail
    have hb:=zjWF HR.out HV.out HY.out (by omega) y.op y.page y.which
    unfold ptrV at hb
    refine hb.mono ?_
    rintro e w3 ⟨rfl,x3,S3,qs3,ts3,Z3,qy3,ty3,Y3,h1,h2,h3⟩
    have HR3:=qh h1
    have HV3:=qh h2
    have HY3:=qh h3
    clear hb h1 h2 h3 HR HV HY d0 d1 d2
    obtain ⟨d0,d1,d2⟩:=HD.out w3 HR3.out.b.k
    go_wp2_with fail
    have hb:=zzAG HR3.out HV3.out.r y.op y.page y.which
    unfold ptrV at hb
    refine hb.mono ?_
    rintro e w4 ⟨rfl,x4,h1⟩
    have HR4:=qh h1
    clear hb h1 HR3 d0 d1 d2
    go_wp2
    go_roundw
    case rel=>exact ⟨j+1,_,_,_,_,_,_,_,_,_,by go_num,by omega,HR4.out,HV3.out,HY3.out,by omega⟩
    case measure=>simp [intOf];omega
   ·have i1:¬ (j:Int) < m:=by omega
    obtain ⟨p0,p1,-,-⟩:=HV.out.r.fit
    obtain ⟨np,hnp⟩:∃ np:Nat,Z.pages=np:=⟨Z.pages.toNat,by omega⟩
    have HNP:=qh hnp
    have hnb:np<=65536:=by omega
    clear p0 p1 hnp
    go_wp2_with fail
    go_loopw [8] (fun i wr=>∃ (t:Nat) (x:BAdr),i=.int .i64 ((t:Int) - 1)/\t<=np+2/\RgM w wr r bk x S g qs ts Z qy ty Y) (fun i _=>np+2 - (intOf i+1).toNat)
    case atStart=>exact ⟨0,_,rfl,by omega,HR.out⟩
    case round=>
     clear HR
     obtain ⟨t,x5,rfl,ht,h1⟩:=hrel
     have HR:=qh h1
     clear h1
     obtain ⟨c0,c1,c2⟩:=HR.out.cells
     have d1:=HR.out.z.cells.1
     rw [HNP.out] at d1
     obtain ⟨p,hp⟩:∃ p:Int,(t:Int) - 1=p:=⟨_,rfl⟩
     rw [hp]
     by_cases htn:t<=np+1
     ·have i2:p<=(np:Int):=by omega
      have i3 : -1<=p:=by omega
      have HPP:=qh hp
      have e1:wrap64 (p+1)=p+1:=by unfold wrap64;omega
      clear hp
      go_wp2_with fail
      have hb:=zzAG HR.out HV.out.r 0 p (p.tmod 9)
      unfold ptrV at hb
      refine hb.mono ?_
      rintro e w6 ⟨rfl,x6,h1⟩
      have HR6:=qh h1
      clear hb h1 HR c0 c1 c2 d1
      go_wp2
      go_roundw
      case rel=>exact ⟨t+1,_,by rw [<- HPP.out];go_num,by omega,HR6.out⟩
      case measure=>have:=HPP.out;simp [intOf];omega
     ·have i2:¬ p<=(np:Int):=by omega
      clear hp
      have HK:=Lib.hid HR.out.b.k
      go_wp2_with fail
      refine (zpT7 wr).mono ?_
      rintro e w6 ⟨rfl,hk6⟩
      have HK6:=qh (HK.out.trans0 hk6)
      clear hk6
      go_wp2
      go_ret
      exact ⟨rfl,HK6.out⟩
end
end Go.Proofs.YtfgagakepmigbaaGreat
