/-
  No statement is proved here.
-/
import Derived.Test.YtnbfhdgojmflhaaJQe
namespace Go.Proofs.Ytnbfhdgojmflhaa
open Go.RowKit
section
variable {w w':World} {a:Adr} {P:PoolM} {L:LogM} {D:DevM}
set_option maxRecDepth 100000 in
set_option maxHeartbeats 3200000 in
theorem z0WN (h:PoolS w a P L D) (hg:LogG L) (hn:PoolN P) (hl:¬ (P.ring.length:Int) < P.most):Calls Try.prog 68 #[ptrV a.pb] w (z9dm w a P L D):=by
 have hm0:=hn.m0
 have hm1:=hn.m1
 have hlen:=hn.len
 obtain ⟨n,hn0⟩:∃ n,n=P.ring.length:=⟨_,rfl⟩
 have hnm:(n:Int)=P.most:=by omega
 obtain ⟨N,hN⟩:∃ N,N=(2*P.most+1).toNat:=⟨_,rfl⟩
 have hNN:(N:Int)=2*P.most+1:=by omega
 obtain ⟨X,hX⟩:∃ X,X=zNrE N P L D:=⟨_,rfl⟩
 have H:=qh h
 have HG:=qh hg
 have HPN:=qh hn
 have hlx:a.xs.length=n:=by rw [hn0,h.len]
 obtain ⟨rg,rc,hrv⟩:=h.rowAt (by omega)
 rw [hlx] at hrv
 have cp5:w.cell? ⟨a.pb,5,none⟩=some (.slice (some ⟨rg,0,none⟩) n rc):=by rw [<- hrv];exact zcjX h.hp rfl
 have cp4:w.cell? ⟨a.pb,4,none⟩=some (.int .i64 P.most):=zcjX h.hp rfl
 obtain ⟨POST,hPOST⟩:∃ POST:Ending->World->Prop,POST=z9dm w a P L D:=⟨_,rfl⟩
 have HPE:=qh (show ∀ (w':World) (P1:PoolM) (L1:LogM) (D1:DevM) (c:Int) (i:Nat),X=(P1,L1,D1,i,c)->c≠0->PPost w a P1 L1 D1 w'->POST (.returned (.tuple #[.int .i64 0,.int .i64 c])) w' from fun w' P1 L1 D1 c i e hc h1=>by
  rw [hPOST];unfold z9dm;rw [if_neg hl];dsimp only;rw [<- hN,<- hX,e,if_pos hc];exact ⟨rfl,h1⟩)
 have HPK:=qh (show ∀ (w' w0:World) (a0:Adr) (x0:FrD) (k:Nat) (P1:PoolM) (L1:LogM) (D1:DevM),X=(P1,L1,D1,k,0)->AdrTo w a w0 a0->a0.xs[k]?=some x0->PoolT w0 w' a0 P1 L1 D1 a0.rv (ptrs a0.xs) (delF (pagesF a0.xs) x0.m.page)->POST (.returned (.tuple #[.int .i64 (k:Int),.int .i64 0])) w' from fun w' w0 a0 x0 k P1 L1 D1 e h1 h2 h3=>by
  rw [hPOST];unfold z9dm;rw [if_neg hl];dsimp only;rw [<- hN,<- hX,e,if_neg (fun h=>h rfl)];exact ⟨rfl,w0,a0,x0,h1,h2,h3⟩)
 rw [<- hPOST]
 have HX:=qh hX
 have HN0:=qh hn0
 obtain ⟨pb,hpb⟩:∃ pb,pb=a.pb:=⟨_,rfl⟩
 have HPB:=qh hpb
 rw [<- hpb] at cp5 cp4
 unfold ptrV
 rw [<- hpb]
 clear h hg hn hl hlen hn0 hN hX hrv hPOST hlx hpb
 have w1:IntKind.i64.wrap (2*P.most)=2*P.most:=by rw [IntKind.wrap_i64];omega
 have w2:IntKind.i64.wrap (2*P.most+1)=2*P.most+1:=by rw [IntKind.wrap_i64];omega
 go_enter Try.func68,Try.ntmps68
 go_wp2_with fail
 go_quiet (fail)
 generalize hwd:w.drewN nq=wd
 have HWD:=qh (show Kept (fun _=>False) w wd from by rw [<- hwd];exact (Kept.refl (fun _=>False) w).drewN _)
 have cp4d:wd.cell? ⟨pb,4,none⟩=some (.int .i64 P.most):=by rw [<- hwd];exact cp4
 clear hwd cp5 cp4
 go_wp2_with fail
 go_loopw [42] (fun i wr=>∃ (j:Nat) (ai:Adr) (Pi:PoolM),i=.int .i64 j/\j<=N/\PoolS wr ai Pi L D/\AdrTo w a wr ai/\zNrE (N - j) Pi L D=X/\PoolN Pi/\Pi.ring.length=n) (fun i _=>N - (intOf i).toNat)
 case atStart=>exact ⟨0,a,P,rfl,Nat.zero_le _,H.out.keep0 HWD.out,(AdrTo.refl w a).keep0 HWD.out,HX.out.symm,HPN.out,HN0.out.symm⟩
 case round=>
  obtain ⟨j,ai,Pi,rfl,hj,hS,hT,hE,hN,hle⟩:=hrel
  have HS:=qh hS
  have HT:=qh hT
  have HE:=qh hE
  have HNi:=qh hN
  clear hS hT hE hN
  by_cases hjN:(j:Int) < 2*P.most+1
  ·have hlx:ai.xs.length=n:=by rw [<- hle,HS.out.len]
   obtain ⟨k,hk⟩:∃ k,k=(Pi.hand % (n:Int)).toNat:=⟨_,rfl⟩
   have HNX:=qh (z0wP HS.out HNi.out (by omega))
   rw [hlx,HT.out.fix.pb,<- HPB.out,<- hk] at HNX
   have kn:k < n:=by
    have:=Int.emod_lt_of_pos Pi.hand (show 0 < (n:Int) by omega)
    have:=Int.emod_nonneg Pi.hand (show (n:Int)≠0 by omega)
    omega
   have HK:=qh hk
   clear hk
   go_wp2_with fail
   refine HNX.out.mono ?_
   rintro e w2 ⟨x,hx,rfl,hb,hk2⟩
   unfold ptrV
   rw [HPB.out.trans HT.out.fix.pb.symm] at hb hk2
   have h2:=HS.out.setH hb hk2
   obtain ⟨P1,hP1⟩:∃ P1:PoolM,P1={ Pi with hand:=(k:Int)+1 }:=⟨_,rfl⟩
   have HP1:=qh hP1
   rw [<- hP1] at h2
   have HS2:=qh h2.1
   have HT2:=qh (HT.out.trans h2.2)
   have HXX:=qh hx
   have hxm:=List.mem_of_getElem? hx
   have HXM:=qh hxm
   have hN1:PoolN P1:=by rw [hP1];exact HNi.out.hand (by omega) (by rw [hle];omega)
   have HN1:=qh hN1
   have hri:P1.ring[k]?=some x.m:=HS2.out.ringAt hx
   have HRI:=qh hri
   have HL1:=qh (show P1.ring.length=n from by rw [hP1];exact hle)
   obtain ⟨m,hm⟩:∃ m,N - j=m+1:=⟨N - j - 1,by omega⟩
   have hst:=HE.out
   rw [hm,zHZI (k:=k) (f:=x.m) (by rw [hle];exact HK.out.symm) (by rw [<- hri,hP1])] at hst
   have hst2:(if 0 < x.m.held then zNrE m P1 L D else if x.m.used then zNrE m { P1 with ring:=P1.ring.set k { x.m with used:=false } } L D else if x.m.dirty then (if (wrF P1.first x.m L D).2.2.2≠0 then (P1,(wrF P1.first x.m L D).2.1,(wrF P1.first x.m L D).2.2.1,0,(wrF P1.first x.m L D).2.2.2) else ({ P1 with ring:=P1.ring.set k (wrF P1.first x.m L D).1 },(wrF P1.first x.m L D).2.1,(wrF P1.first x.m L D).2.2.1,k,0)) else (P1,L,D,k,0))=X:=by
    rw [hP1];exact hst
   have HST:=qh hst2
   have c2:w2.cell? ⟨x.k,2,none⟩=some (.int .i64 x.m.held):=zcjX (HS2.out.fr x hxm).1 rfl
   have hm2:N - (j+1)=m:=by omega
   have hj2:j+1<=N:=by omega
   have c3:w2.cell? ⟨x.k,3,none⟩=some (.bool x.m.used):=zcjX (HS2.out.fr x hxm).1 rfl
   have c4:w2.cell? ⟨x.k,4,none⟩=some (.bool x.m.dirty):=zcjX (HS2.out.fr x hxm).1 rfl
   clear h2 hP1 hb hk2 hx hxm hN1 hri hst hst2 hm HNX HE HS HT HNi
   by_cases hh:0 < x.m.held
   ·have HS3:=qh (show zNrE m P1 L D=X from by rw [<- HST.out,if_pos hh])
    go_wp2
    go_roundw
    case rel=>exact ⟨j+1,ai,P1,by go_num,hj2,HS2.out,HT2.out,by rw [hm2];exact HS3.out,HN1.out,HL1.out⟩
    case measure=>simp [intOf];omega
   ·cases hu:x.m.used
    ·rw [hu] at c3
     have HS3:=qh (show (if x.m.dirty then (if (wrF P1.first x.m L D).2.2.2≠0 then (P1,(wrF P1.first x.m L D).2.1,(wrF P1.first x.m L D).2.2.1,0,(wrF P1.first x.m L D).2.2.2) else ({ P1 with ring:=P1.ring.set k (wrF P1.first x.m L D).1 },(wrF P1.first x.m L D).2.1,(wrF P1.first x.m L D).2.2.1,k,0)) else (P1,L,D,k,0))=X from by
      rw [<- HST.out,if_neg hh,hu];rfl)
     clear HST
     go_upto_if 54 with fail
     go_cut [6] from 54 to 60 (fun _ wx=>∃ a3 P3 L3 D3 x3,PoolS wx a3 P3 L3 D3/\AdrTo w a wx a3/\a3.xs[k]?=some x3/\x3.k=x.k/\X=(P3,L3,D3,k,0))
     case first=>
      cases hd:x.m.dirty
      ·have HX3:=qh (show X=(P1,L,D,k,0) from by rw [<- HS3.out,hd];rfl)
       rw [hd] at c4
       go_wp2
       go_meet
       case rel=>exact ⟨ai,P1,L,D,x,HS2.out,HT2.out,HXX.out,rfl,HX3.out⟩
      ·rw [hd] at c4
       have hpg:=HN1.out.pg x.m (List.mem_of_getElem? HRI.out)
       have hfb:=HN1.out.fb
       have hf0:=HN1.out.f0
       have HW:=qh (zCf5 HS2.out HG.out hf0 (by omega) HXX.out hpg.1 (by omega))
       unfold ptrV at HW
       rw [HT2.out.fix.pb,<- HPB.out] at HW
       have HX3:=qh (show (if (wrF P1.first x.m L D).2.2.2≠0 then (P1,(wrF P1.first x.m L D).2.1,(wrF P1.first x.m L D).2.2.1,0,(wrF P1.first x.m L D).2.2.2) else ({ P1 with ring:=P1.ring.set k (wrF P1.first x.m L D).1 },(wrF P1.first x.m L D).2.1,(wrF P1.first x.m L D).2.2.1,k,0))=X from by rw [<- HS3.out,hd];rfl)
       clear hpg hfb hf0 HS3
       go_wp2_with fail
       refine HW.out.mono ?_
       rintro e w3 h3
       obtain ⟨rfl,a3,hs3,ht3,hx3,_⟩:=h3.to HXX.out
       have HS4:=qh hs3
       have HT4:=qh (HT2.out.trans ht3)
       have HX4:=qh hx3
       obtain ⟨YE,hYE⟩:∃ YE,YE=(wrF P1.first x.m L D).2.2.2:=⟨_,rfl⟩
       rw [<- hYE]
       have HYE:=qh hYE
       clear hs3 ht3 hx3 hYE HW
       by_cases hy:YE=0
       ·have HX5:=qh (show X=({ P1 with ring:=P1.ring.set k (wrF P1.first x.m L D).1 },(wrF P1.first x.m L D).2.1,(wrF P1.first x.m L D).2.2.1,k,0) from by
         rw [<- HX3.out,if_neg (fun h=>h (HYE.out.symm.trans hy))])
        subst hy
        go_wp2
        go_meet
        case rel=>exact ⟨a3,_,_,_,_,HS4.out,HT4.out,HX4.out,rfl,HX5.out⟩
       ·have hyb:(YE != 0)=true:=by rw [bne_iff_ne];exact hy
        have HY:=qh hy
        have HX5:=qh (show X=(P1,(wrF P1.first x.m L D).2.1,(wrF P1.first x.m L D).2.2.1,0,YE) from by
         rw [<- HX3.out,if_pos (fun h=>hy (HYE.out.trans h)),HYE.out])
        go_wp2
        refine HPE.out w3 _ _ _ _ _ HX5.out HY.out (HT4.out.post ?_)
        have hs:=HS4.out
        rw [zcC1 (by rw [<- HYE.out];exact HY.out),zh6D HRI.out] at hs
        exact hs
     case rest=>
      obtain ⟨a3,P3,L3,D3,x3,hs3,ht3,hx3,hxk,hX3⟩:=hcut
      have HS4:=qh hs3
      have HT4:=qh ht3
      have HX4:=qh hx3
      have HX5:=qh hX3
      have hxm3:=List.mem_of_getElem? hx3
      have HPB3:=qh (show pb=a3.pb from HPB.out.trans ht3.fix.pb.symm)
      have HXK:=qh hxk
      have HC:=qh (fun (w':World) (h:w'.heap[a3.pb]?=some (.cells (poolC a3 P3) 57 (0,0))/\w'.heap[x3.k]?=some (.cells (frC x3) 94 (0,0)))=>show w'.cell? ⟨pb,7,none⟩=some (.map (some a3.mb))/\w'.cell? ⟨x.k,0,none⟩=some (.int .i64 x3.m.page) from
       ⟨by rw [HPB3.out];exact zcjX h.1 rfl,by rw [<- HXK.out];exact zcjX h.2 rfl⟩)
      have hS0:(wc.drew).heap[a3.pb]?=some (.cells (poolC a3 P3) 57 (0,0))/\(wc.drew).heap[x3.k]?=some (.cells (frC x3) 94 (0,0)):=⟨hs3.hp,(hs3.fr x3 hxm3).1⟩
      have HS0:=qh hS0
      clear hs3 ht3 hx3 hxk hX3 hxm3 hS0 HS2 HT2 HXX HXM HN1 HRI HL1 HS3 c2 c3 c4
      go_wp2_with fail
      refine znCh 8 (fun w'=>w'.heap[a3.pb]?=some (.cells (poolC a3 P3) 57 (0,0))/\w'.heap[x3.k]?=some (.cells (frC x3) 94 (0,0))) (by kernel_rfl) HS0.out (fun hH=>?_)
      simp only [List.length_cons,List.length_nil,List.replicate]
      refine tK 0 ?_ (fun w' hw'=>?_) hH ?_
      rotate_left
      ·obtain ⟨c7,d0⟩:=HC.out w' hw'
       go_simp<;>with_reducible rfl
      simp only [Act.put,oZa,oZb,oZc]
      refine tK 1 ?_ (fun w' hw'=>?_) hH ?_
      rotate_left
      ·obtain ⟨c7,d0⟩:=HC.out w' hw'
       go_simp<;>with_reducible rfl
      simp only [Act.put,oZa,oZb,oZc]
      refine tK 2 ?_ (fun w' hw'=>?_) hH ?_
      rotate_left
      ·obtain ⟨c7,d0⟩:=HC.out w' hw'
       go_simp<;>with_reducible rfl
      simp only [Act.put,oZa,oZb,oZc]
      refine tK 3 ?_ (fun w' hw'=>?_) hH ?_
      rotate_left
      ·obtain ⟨c7,d0⟩:=HC.out w' hw'
       go_simp<;>with_reducible rfl
      simp only [Act.put,oZa,oZb,oZc]
      refine tK 4 ?_ (fun w' hw'=>?_) hH ?_
      rotate_left
      ·obtain ⟨c7,d0⟩:=HC.out w' hw'
       go_simp<;>with_reducible rfl
      simp only [Act.put,oZa,oZb,oZc]
      refine tK 5 ?_ (fun w' hw'=>?_) hH ?_
      rotate_left
      ·obtain ⟨c7,d0⟩:=HC.out w' hw'
       go_simp<;>with_reducible rfl
      simp only [Act.put,oZa,oZb,oZc]
      refine tK 6 ?_ (fun w' hw'=>?_) hH ?_
      rotate_left
      ·obtain ⟨c7,d0⟩:=HC.out w' hw'
       go_simp<;>with_reducible rfl
      simp only [Act.put,oZa,oZb,oZc]
      refine tK 7 ?_ (fun w' hw'=>?_) hH ?_
      rotate_left
      ·obtain ⟨c7,d0⟩:=HC.out w' hw'
       go_simp<;>with_reducible rfl
      simp only [Act.put,oZa,oZb,oZc]
      refine stepL 8 rfl (by kernel_rfl) (fun K hK=>?_)
      refine zHj9 rfl _ _ _ _ (by rfl) (by rfl) (by rfl) (HS4.out.keep0 ((Kept.refl (fun _=>False) wc).drew)).map Try.underlying55 (by kernel_rfl) ?_
      intro w5 hm5 hk5
      have HM5:=qh hm5
      have HK5:=qh ((Kept.refl (fun z=>z=a3.mb) wc).drew.trans' hk5)
      clear hm5 hk5
      refine hK.out _ _ (fun h=>absurd rfl h) (fun _=>?_)
      simp only [oZa,oZb,oZc]
      clear hK K hH
      refine doneL (by kernel_rfl) ?_ _
      go_wp2
      exact HPK.out w5 wc a3 x3 k P3 L3 D3 HX5.out HT4.out HX4.out ⟨HS4.out,HK5.out.mono (fun _ _ h=>.inr (.inl h)),HK5.out.heap HS4.out.hp (fun e=>HS4.out.tpb.nem HS4.out.map e),.inl rfl,by
       have:=zh0U HS4.out.row HK5.out (fun z hz e=>(HS4.out.trv hz).nem HS4.out.map e)
       have e:(ptrs a3.xs).length=a3.xs.length:=by simp [ptrs]
       rw [e]
       exact this,HM5.out⟩
    ·rw [hu] at c3
     have HS3:=qh (show zNrE m { P1 with ring:=P1.ring.set k { x.m with used:=false } } L D=X from by rw [<- HST.out,if_neg hh,hu];rfl)
     go_wp2_with (refine z2q7 rfl 4 _ _ rfl x.k 3 (.bool false) (frC x) rfl rfl (HS2.out.fr x HXM.out).1 (by kernel_rfl) (by show 3 < 7;decide) rfl ?_)
     intro w3 hb3 hk3
     have h3:=HS2.out.unuse false HXX.out hb3 hk3
     have HS4:=qh h3.1
     have HT4:=qh (HT2.out.trans h3.2)
     clear h3 hb3 hk3
     go_wp2
     go_roundw
     case rel=>exact ⟨j+1,_,_,by go_num,hj2,HS4.out,HT4.out,by rw [hm2];exact HS3.out,HN1.out.set HRI.out rfl,by show (P1.ring.set k _).length=n;rw [List.length_set];exact HL1.out⟩
     case measure=>simp [intOf];omega
  ·have hj3:N - j=0:=by omega
   have hx9:=HE.out
   rw [hj3,zpOZ] at hx9
   have HX9:=qh hx9
   clear hx9 HE
   go_wp2
   exact HPE.out wr Pi L D 9 0 HX9.out.symm (by decide) (HT.out.post HS.out)
end
end Go.Proofs.Ytnbfhdgojmflhaa
