/-
  No statement is proved here.
-/
import Derived.Test.YtfgagakepmigbaaGreatJBkg
import Derived.Test.YtfgagakepmigbaaGreatJQt
namespace Go.Proofs.YtfgagakepmigbaaGreat
open Go.RowKit
def fillZ:Nat->DevM->DevM
 | 0,D=>D
 | k+1,D=>(fillZ k D).put k (zeros 512)
def ziko (D:DevM):Int×DevM:=
 if ((fillZ D.n.toNat D).syncR).1≠0 then (fillZ D.n.toNat D).syncR else ((zgqU (fillZ D.n.toNat D).syncR.2 ⟨1,1,1⟩).2,(zgqU (fillZ D.n.toNat D).syncR.2 ⟨1,1,1⟩).1)
theorem z2nB {D:DevM} (h:Calm D):∀ k,Calm (fillZ k D)
 | 0=>h
 | k+1=>⟨show (fillZ k D).armed=0 from (z2nB h k).a,show (fillZ k D).down=false from (z2nB h k).d,show 1<=(fillZ k D).n from (z2nB h k).n⟩
theorem zZpD (D:DevM):∀ k,(fillZ k D).n=D.n/\(fillZ k D).armed=D.armed/\(fillZ k D).down=D.down/\(fillZ k D).safe=D.safe
 | 0=>⟨rfl,rfl,rfl,rfl⟩
 | k+1=>zZpD D k
theorem zNqp (D:DevM) (i:Int):∀ k:Nat,(fillZ k D).opn i=if 0<=i/\i < k then some (zeros 512) else D.opn i
 | 0=>by rw [if_neg (by omega)];rfl
 | k+1=>by
  show updF (fillZ k D).opn k (zeros 512) i=_
  unfold updF
  rw [zNqp D i k]
  by_cases h:i=k
  ·rw [if_pos h,if_pos (by omega)]
  ·rw [if_neg h]
   by_cases h2:0<=i/\i < k
   ·rw [if_pos h2,if_pos (by omega)]
   ·rw [if_neg h2,if_neg (by omega)]
section
variable {w w' w1:World} {p ms mo:Nat} {D D':DevM}
theorem zU1G (h:DevAt w p ms mo D) (gp:Nat) (hgp:w.heap[gp]?=some (.cells #[.pointer (some ⟨p,0,none⟩)] 25 (0,0))) :
  Calls Tryz.prog 69 #[.pointer (some ⟨gp,0,none⟩)] w fun e w'=>e=.returned (.int .i64 (zgqU D ⟨1,1,1⟩).2)/\DevAt w' p ms mo (zgqU D ⟨1,1,1⟩).1/\Kept (fun x=>x=p\/x=ms\/x=mo) w w':=by
 have HW:=qh (zjxy h ⟨1,1,1⟩)
 have c0:w.cell? ⟨gp,0,none⟩=some (.pointer (some ⟨p,0,none⟩)):=zcjX hgp rfl
 obtain ⟨V,hV⟩:∃ V,V=zgqU D ⟨1,1,1⟩:=⟨_,rfl⟩
 rw [<- hV] at HW ⊢
 have HWW:=qh (show Calls Tryz.prog 70 #[.pointer (some ⟨p,0,none⟩),.agg #[.int .i64 1,.int .i64 1,.int .i64 1]] w fun e w'=>e=.returned (.int .i64 V.2)/\DevAt w' p ms mo V.1/\Kept (fun x=>x=p\/x=ms\/x=mo) w w' from HW.out)
 have BM:=bM3
 clear h hgp HW hV
 go_enter Tryz.func69,Tryz.ntmps69
 go_wp2_with fail
 refine HWW.out.mono ?_
 rintro e w1 ⟨rfl,h1,h2⟩
 have H1:=qh h1
 have H2:=qh h2
 clear h1 h2 HWW
 go_wp2
 go_ret
 exact ⟨rfl,H1.out,H2.out⟩
set_option maxRecDepth 100000 in
set_option maxHeartbeats 1600000 in
theorem zi6r (h:DevAt w p ms mo D) (hc:Calm D) (hn:24<=D.n) :
  Calls Tryz.prog 38 #[.pointer (some ⟨p,0,none⟩)] w fun e w'=>e=.returned (.int .i64 (ziko D).1)/\DevAt w' p ms mo (ziko D).2/\Kept (fun x=>x=p\/x=ms\/x=mo) w w':=by
 have HB:=qh (fun (w':World) (hk:Kept (fun _=>False) w w')=>zyYd (h.keep hk id id id))
 have h1n:=h.n0
 have hN1:=h.n1
 have HD:=qh h
 have HC:=qh hc
 have hmf:∀ (fn:Fn) (first cap:Array Value) (w:World),(Instr.makeFunc fn first cap).run Tryz.prog w=.ok (.func fn first cap) w:=fun _ _ _ _=>rfl
 obtain ⟨N,hN⟩:∃ N:Nat,D.n=N:=⟨D.n.toNat,by omega⟩
 rw [hN] at h1n HB hn hN1
 have HNN:=qh hN
 have hn0:((N:Int) == 0)=false:=by rw [beq_eq_false_iff_ne];omega
 have hn1:¬ (N:Int) < 24:=by omega
 clear h hN hc
 go_enter Tryz.func38,Tryz.ntmps38
 go_wp2_with (refine znBH rfl 25 _ rfl (.pointer (some ⟨p,0,none⟩)) rfl ?_)
 intro gp w1 l1 m1 hb1 hk1
 have HP1:=qh (show w1.heap[gp]?=some (.cells #[.pointer (some ⟨p,0,none⟩)] 25 (0,0)) from hb1)
 have HK1:=qh hk1
 have c0:w1.cell? ⟨gp,0,none⟩=some (.pointer (some ⟨p,0,none⟩)):=zcjX hb1 rfl
 have HD1:=qh (HD.out.keep hk1 id id id)
 clear hb1 hk1
 go_wp2_with fail
 refine (HB.out w1 HK1.out).mono ?_
 rintro e wx ⟨rfl,rfl⟩
 have HF:=qh (show ∀ wz E,DevAt wz p ms mo E->∀ (cs:Array Value) (t:TypeId) (y:Nat),wz.heap[y]?=some (.cells cs t (0,0))->t≠100->¬ (y=p\/y=ms\/y=mo) from fun wz E hd cs t y hx ht e=>by
  rcases e with e | e | e
  ·exact zxvD hx hd.hp ht e
  ·exact zWjK hx hd.hs e
  ·exact zWjK hx hd.ho e)
 clear HB HD
 go_wp2_with fail
 go_loopw [15] (fun i wr=>∃ k:Nat,k<=N/\i=.int .i64 k/\DevAt wr p ms mo (fillZ k D)/\wr.heap[gp]?=some (.cells #[.pointer (some ⟨p,0,none⟩)] 25 (0,0))/\Kept (fun x=>x=p\/x=ms\/x=mo) w wr) (fun i _=>N - (intOf i).toNat)
 case atStart=>exact ⟨0,Nat.zero_le _,rfl,HD1.out,HP1.out,HK1.out.mono (fun _ _ h=>False.elim h)⟩
 case round=>
  obtain ⟨k,hk,rfl,hd,hg,hkp⟩:=hrel
  have HDk:=qh hd
  have HGk:=qh hg
  have HKk:=qh hkp
  have HCk:=qh (z2nB HC.out k)
  have HNk:=qh (show (fillZ k D).n=(N:Int) from by rw [(zZpD D k).1,HNN.out])
  clear hd hg hkp HD1 HP1 HK1 c0
  by_cases hlt:k < N
  ·have i1:(k:Int) < (N:Int):=by omega
   have e1:wrap64 ((k:Int)+1)=((k+1:Nat):Int):=by unfold wrap64;omega
   have HWR:=qh (show (fillZ k D).write k (zeros 512)=(0,fillZ (k+1) D) from HCk.out.write (by omega) (by rw [HNk.out];omega) (by simp [zeros]))
   have HS0:=qh (show (wr.drew).heap[gp]?=some (.cells #[.pointer (some ⟨p,0,none⟩)] 25 (0,0)) from HGk.out)
   have HCC:=qh (fun (w':World) (h:w'.heap[gp]?=some (.cells #[.pointer (some ⟨p,0,none⟩)] 25 (0,0)))=>show w'.cell? ⟨gp,0,none⟩=some (.pointer (some ⟨p,0,none⟩)) from zcjX h rfl)
   go_wp2_with fail
   refine znCh 4 (fun w'=>w'.heap[gp]?=some (.cells #[.pointer (some ⟨p,0,none⟩)] 25 (0,0))) (by kernel_rfl) HS0.out (fun hH=>?_)
   simp only [List.length_cons,List.length_nil,List.replicate]
   refine tK 0 ?_ (fun w' hw'=>?_) hH ?_
   rotate_left
   ·have k0:=HCC.out w' hw'
    go_simp<;>with_reducible rfl
   simp only [Act.put,oZa,oZb,oZc]
   refine tK 1 ?_ (fun w' hw'=>?_) hH ?_
   rotate_left
   ·have k0:=HCC.out w' hw'
    go_simp<;>with_reducible rfl
   simp only [Act.put,oZa,oZb,oZc]
   refine stepL 2 rfl (by kernel_rfl) (fun K hK=>?_)
   refine zIeg rfl _ _ (by rfl) .i64 .i64 512 512 (by rfl) (by rfl) (Nat.le_refl _) (by decide) ?_
   intro gz w2 l2 m2 hb2 hk2
   have HG2:=qh (hk2.heap HS0.out id)
   have HD2:=qh (HDk.out.keep (((Kept.refl (fun _=>False) wr).drew).trans0 hk2) id id id)
   have HK2:=qh (HKk.out.trans' ((((Kept.refl (fun _=>False) wr).drew).trans0 hk2).mono (fun _ _ h=>False.elim h)))
   have HW2:=qh (zquG HD2.out k (some ⟨gz,0,none⟩) 512 (zeros 512) (fun _=>⟨gz,0,rfl,fun j v hv=>by rw [Nat.zero_add];exact zcjX hb2 hv⟩))
   rw [HWR.out] at HW2
   clear hb2 hk2 l2 m2
   refine hK.out _ _ (fun _=>HG2.out) (fun _=>?_)
   simp only [oZa,oZb,oZc]
   clear hK K hH
   refine stepL 3 rfl (by kernel_rfl) (fun K hK=>?_)
   go_simp
   refine (show Calls Tryz.prog 67 #[.pointer (some ⟨p,0,none⟩),.int .i64 k,.slice (some ⟨gz,0,none⟩) 512 512] w2 _ from HW2.out).mono ?_
   rintro e w3 ⟨rfl,hd3,hk3⟩
   have HD3:=qh hd3
   have hk3':=hk3.mono (T:=fun x=>x=p\/x=ms\/x=mo) (fun x _ h=>by rcases h with h | h;exact .inl h;exact .inr (.inr h))
   have HK3:=qh (HK2.out.trans' hk3')
   have HG3:=qh (hk3'.heap HG2.out (HF.out _ _ HD2.out _ _ _ HG2.out (by decide)))
   clear hd3 hk3 hk3' HW2
   go_simp
   refine hK.out _ _ (fun _=>HG3.out) (fun _=>?_)
   simp only [oZa,oZb,oZc]
   clear hK K
   refine stepL 4 rfl (by kernel_rfl) (fun K hK=>?_)
   go_simp
   refine hK.out _ _ (fun h=>absurd rfl h) (fun _=>?_)
   simp only [oZa,oZb,oZc]
   clear hK K
   refine doneL (by kernel_rfl) ?_ _
   go_wp2
   go_roundw
   case rel=>exact ⟨k+1,by omega,by go_num,HD3.out,HG3.out,HK3.out⟩
   case measure=>simp [intOf];omega
  ·have hkN:k=N:=by omega
   subst hkN
   have i1:¬ (k:Int) < (k:Int):=by omega
   obtain ⟨F,hF⟩:∃ F:Array Value,F=#[FnV.v ⟨68,#[.pointer (some ⟨p,0,none⟩)],#[]⟩,FnV.v ⟨69,#[],#[.pointer (some ⟨gp,0,none⟩)]⟩]:=⟨_,rfl⟩
   obtain ⟨w4,hw4⟩:∃ w4,w4=wr.alloc (.cells F 41):=⟨_,rfl⟩
   have hk4:Kept (fun _=>False) wr w4:=by rw [hw4];exact (Kept.refl _ wr).alloc _
   have hf4:w4.heap[wr.heap.size]?=some (.cells F 41 (0,0)):=by rw [hw4];exact heap_alloc_new wr _
   have HP4:=qh (hk4.heap HGk.out id)
   have HK4:=qh (HKk.out.trans' (hk4.mono (T:=fun x=>x=p\/x=ms\/x=mo) (fun _ _ h=>False.elim h)))
   obtain ⟨gf,hgf⟩:∃ gf,gf=wr.heap.size:=⟨_,rfl⟩
   rw [<- hgf] at hf4
   have HD4:=qh (HDk.out.keep hk4 id id id)
   obtain ⟨X,hX⟩:∃ X,X=(fillZ k D).syncR:=⟨_,rfl⟩
   have HE:=qh (show ziko D=if X.1≠0 then X else ((zgqU X.2 ⟨1,1,1⟩).2,(zgqU X.2 ⟨1,1,1⟩).1) from by
    have ek:D.n.toNat=k:=by have:=HNN.out;omega
    unfold ziko;rw [ek,<- hX])
   have HEA:=qh (show Calls Tryz.prog 44 #[.slice (some ⟨gf,0,none⟩) 2 2] w4 fun e w'=>∃ n,e=.returned (.int .i64 n)/\n=(ziko D).1/\DevAt w' p ms mo (ziko D).2/\Kept (fun x=>x=p\/x=ms\/x=mo) w4 w' from by
    refine each2 w4 gf _ _ _ (by rw [<- hF];exact hf4) ⟨fun wz=>by kernel_rfl,(zWTC HD4.out).mono ?_⟩
    rintro e w5 ⟨rfl,hd5,hk5⟩
    rw [<- hX] at hd5 ⊢
    have hg5:=hk5.heap HP4.out (HF.out _ _ HD4.out _ _ _ HP4.out (by decide))
    have hf5:=hk5.heap hf4 (HF.out _ _ HD4.out _ _ _ hf4 (by decide))
    refine ⟨_,rfl,by rw [<- hF];exact hf5,fun hne=>?_,fun h0=>⟨fun wz=>by kernel_rfl,(zU1G hd5 gp hg5).mono ?_⟩⟩
    ·rw [HE.out,if_pos hne]
     exact ⟨rfl,hd5,hk5⟩
    ·rintro e w6 ⟨rfl,hd6,hk6⟩
     have hke:=hk5.trans' hk6
     have hfin:((zgqU X.2 ⟨1,1,1⟩).2=(ziko D).1/\DevAt w6 p ms mo (ziko D).2/\Kept (fun x=>x=p\/x=ms\/x=mo) w4 w6):=by
      rw [HE.out,if_neg (fun h=>h h0)]
      exact ⟨rfl,hd6,hke⟩
     exact ⟨_,rfl,by rw [<- hF];exact hk6.heap hf5 (HF.out _ _ hd5 _ _ _ hf5 (by decide)),fun _=>hfin,fun h0=>by rw [h0] at hfin;exact hfin⟩)
   have hF2 : #[Value.func (.func 68) #[.pointer (some ⟨p,0,none⟩)] #[],.func (.func 69) #[] #[.pointer (some ⟨gp,0,none⟩)]]=F:=by rw [hF];rfl
   have HW4:=qh (show wr.alloc (.cells #[Value.func (.func 68) #[.pointer (some ⟨p,0,none⟩)] #[],.func (.func 69) #[] #[.pointer (some ⟨gp,0,none⟩)]] 41)=w4 from by rw [hF2,hw4])
   have HGF:=qh hgf
   have c0:wr.cell? ⟨gp,0,none⟩=some (.pointer (some ⟨p,0,none⟩)):=zcjX HGk.out rfl
   clear hX hF hw4 hk4 hf4 hgf hF2 hlt
   go_wp2_with fail
   rw [HW4.out,<- HGF.out]
   refine HEA.out.mono ?_
   rintro e w5 ⟨n,rfl,rfl,hd5,hk5⟩
   have HD5:=qh hd5
   have HK5:=qh (HK4.out.trans' hk5)
   clear hd5 hk5
   go_wp2
   go_ret
   exact ⟨rfl,HD5.out,HK5.out⟩
end
end Go.Proofs.YtfgagakepmigbaaGreat
